/- A region that draws its order: reads and quiet calls, one operation that may write, then moves in whatever order. · The document's arena: objects on the heap, in two rows of pointers. · Walks: the document's arena, methods that only read. · Walks: the document's arena: word, Bytes. · Walks: the document's arena: Bytes. · The document's arena: what its writes leave. · Walks: the document's arena: New, Put, Flip. · Walks: the document's arena: Flip, Make. · Walks: the document's arena: Copy. · The two arenas side by side; walks: done, Same, asked. · Walk: Same. -/
import Derived.StillTailTactics
import Derived.Test.YtniifefmjdjebaaKB
import Derived.Deep.RegionHeld3
import Derived.BigRegion
namespace Go.Proofs.Ytniifefmjdjebaa
open Go
set_option linter.unusedVariables false
set_option linter.unusedSimpArgs false
section
variable {P : Program} {ops : Array Oper} {md : Region.Mode} {w : World}
/-- Each operation behind n waits for one that is not ahead of n. -/
def backB (md : Region.Mode) (ops : Array Oper) (n : Nat) : Bool :=
  (List.range ops.size).all fun t => decide (t ≤ n) || (List.range ops.size).any fun s => decide (n ≤ s) && Region.waitsFor md ops t s
theorem back_waits {n t : Nat} {listed : Array Bool} (hc : backB md ops n = true) (inv : HeadInv md ops n listed) (ht : n < t) : t ∉ Region.ready md ops listed := by
  intro hr
  obtain ⟨_, ot, hot, hall⟩ := mem_ready.1 hr
  have htlt : t < ops.size := (Array.getElem?_eq_some_iff.1 hot).1
  have h1 := List.all_eq_true.1 hc t (List.mem_range.2 htlt)
  simp only [Bool.or_eq_true, decide_eq_true_eq] at h1
  rcases h1 with h1 | h1
  · omega
  · obtain ⟨s, hs, h2⟩ := List.any_eq_true.1 h1
    simp only [Bool.and_eq_true, decide_eq_true_eq] at h2
    obtain ⟨o', ho', e, he, hb, hon⟩ := Region.waitsFor_spec h2.2
    have : o' = ot := Option.some.inj (ho'.symm.trans hot)
    subst this
    have h3 := hall e he hb
    rw [hon, getD_both (inv.tail s h2.1 (List.mem_range.1 hs))] at h3
    cases h3
/-- Number n is not ready while one ahead of it is not listed. -/
theorem mid_waits {n : Nat} {listed : Array Bool} (hs : Region.sinkB md ops n = true) (hn : n < ops.size) (inv : HeadInv md ops n listed) :
    ∀ (d i : Nat), n - i = d → i < n → listed.getD i true = false → n ∉ Region.ready md ops listed := by
  intro d
  induction d using Nat.strongRecOn with
  | _ d ih =>
    intro i hd hi hun hr
    obtain ⟨j, hj, hj2⟩ := List.any_eq_true.1 (List.all_eq_true.1 hs i (List.mem_range.2 hi))
    simp only [Bool.and_eq_true, decide_eq_true_eq] at hj2
    obtain ⟨oj, hoj, e, he, hb, hon⟩ := Region.waitsFor_spec hj2.2
    have hjle : j ≤ n := by have := List.mem_range.1 hj; omega
    have hno : listed.getD e.on false = true → False := fun h => by rw [hon, getD_both hun] at h; cases h
    rcases Nat.lt_or_ge j n with hjn | hjn
    · cases hl : listed.getD j false with
      | true => exact hno (inv.closed j oj hoj hl e he hb)
      | false => exact ih (n - j) (by omega) j rfl hjn (getD_in (by rw [inv.size]; omega) hl) hr
    · obtain rfl : j = n := by omega
      obtain ⟨_, ot, hot, hall⟩ := mem_ready.1 hr
      have : oj = ot := Option.some.inj (hoj.symm.trans hot)
      subst this
      exact hno (hall e he hb)
theorem mid_head {n : Nat} {listed : Array Bool} (hs : Region.sinkB md ops n = true) (hc : backB md ops n = true) (hn : n < ops.size) (inv : HeadInv md ops n listed) {i : Nat} (hi : i < n) (hun : listed.getD i true = false) {j : Nat} (hj : j ∈ Region.ready md ops listed) : j < n := by
  rcases Nat.lt_trichotomy j n with h | h | h
  · exact h
  · subst h; exact absurd hj (mid_waits hs hn inv _ i rfl hi hun)
  · exact absurd hj (back_waits hc inv h)
theorem midL_first {n i : Nat} {oi : Oper} {v : Value} {L : Array Bool → Act → Prop} (hi : ops[i]? = some oi) (hsel : ∀ (j : Nat) (o : Oper) cs b, ops[j]? = some o → o.op ≠ .select cs b)
    (hs : Region.sinkB md ops n = true) (hc : backB md ops n = true) (hn : n < ops.size) (hin : i < n) (hdone : ∀ listed a, L listed a → ∀ j ∈ Region.ready md ops listed, n ≤ j) :
    ∀ (f : Nat) (listed : Array Bool) (a : Act), HeadInv md ops n listed →
      (∀ j oj, ops[j]? = some oj → j ≠ i → listed.getD j true = false → (∀ e ∈ oj.after, Region.binds md e = true → e.on ≠ i) → oi.apart ops oj = true) →
      i ∈ Region.ready md ops listed → YieldsAt P ops w oi v a →
      wpAnyL P md ops w n L f (listed.setIfInBounds i true) (a.put oi.dst v) → wpAnyL P md ops w n L (f + 1) listed a := by
  intro f
  induction f with
  | zero =>
    intro listed a inv _ hr hy H
    have hun := (mem_ready.1 hr).1
    refine ⟨fun h => (by rw [h] at hr; cases hr), fun j hj => ?_⟩
    have hjn := mid_head hs hc hn inv hin hun hj
    refine ⟨hjn, ?_⟩
    by_cases hji : j = i
    · subst hji; exact hy.stOp hi H
    · have := hdone _ _ H j (ready_mono hj hji)
      omega
  | succ f ih =>
    intro listed a inv hfree hr hy H
    have hun := (mem_ready.1 hr).1
    refine ⟨fun h => (by rw [h] at hr; cases hr), fun j hj => ?_⟩
    have hjn := mid_head hs hc hn inv hin hun hj
    refine ⟨hjn, ?_⟩
    by_cases hji : j = i
    · subst hji; exact hy.stOp hi H
    · have h1 := (H.2 j (ready_mono hj hji)).2
      obtain ⟨hjun, oj, hoj, hall⟩ := mem_ready.1 hj
      have hnot : ∀ e ∈ oj.after, Region.binds md e = true → e.on ≠ i := fun e he hb heq => by
        have h1 := hall e he hb
        rw [heq, getD_both hun] at h1
        cases h1
      have h2 := stOp_put hoj (hfree j oj hoj hji hjun hnot) (fun cs b => hsel i oi cs b hi) (fun cs b => hsel j oj cs b hoj) hy h1
      have hfree' : ∀ k ok, ops[k]? = some ok → k ≠ i → (listed.setIfInBounds j true).getD k true = false →
          (∀ e ∈ ok.after, Region.binds md e = true → e.on ≠ i) → oi.apart ops ok = true := fun k ok hk hki hun hno => by
        refine hfree k ok hk hki ?_ hno
        by_cases hjk : j = k
        · subst hjk; exact hjun
        · rw [getD_set_ne true hjk] at hun; exact hun
      refine stOp_mono (fun a' h3 => ih (listed.setIfInBounds j true) a' (inv.set hj hjn) hfree' (ready_mono hr (Ne.symm hji)) h3.1 ?_) h2
      rw [Array.setIfInBounds_comm _ _ hji]
      exact h3.2
/-- The walk in the order of the text, up to number n; there T holds of what is listed. -/
def headB (md : Region.Mode) (ops : Array Oper) (T : Array Bool → Bool) : Nat → Nat → Array Bool → Bool
  | 0, k, listed => T listed
  | f + 1, k, listed => (Region.ready md ops listed).contains k && Region.free md ops listed k && headB md ops T f (k + 1) (listed.setIfInBounds k true)
def restB (md : Region.Mode) (ops : Array Oper) (n : Nat) (listed : Array Bool) : Bool := decide (Region.ready md ops listed = [n]) && Region.lexFrom md ops (ops.size - n - 1) (n + 1) (listed.setIfInBounds n true)
def midB (md : Region.Mode) (ops : Array Oper) (n : Nat) : Bool :=
  Region.noSelect ops && decide (n < ops.size) && Region.sinkB md ops n && backB md ops n && headB md ops (restB md ops n) n 0 (Array.replicate ops.size false)
theorem midL_lex {n : Nat} {Lq : Act → Prop} (hsel : Region.noSelect ops = true) (hs : Region.sinkB md ops n = true) (hc : backB md ops n = true) (hn : n < ops.size) :
    ∀ (l : List Oper) (k : Nat) (listed : Array Bool) (a : Act), (∀ j, j < l.length → l[j]? = ops[k + j]?) → k + l.length = n → HeadInv md ops n listed →
    headB md ops (restB md ops n) l.length k listed = true → wpStill P ops w Lq l a →
    wpAnyL P md ops w n (fun listed' a' => restB md ops n listed' = true ∧ Lq a') l.length listed a
  | [], k, listed, a, _, hk, _, hB, h => ⟨hB, h⟩
  | o :: l, k, listed, a, hl, hk, inv, hB, h => by
    have h0 : ops[k]? = some o := by simpa using (hl 0 (by simp)).symm
    simp only [List.length_cons, headB, Bool.and_eq_true] at hB
    obtain ⟨⟨hr, hf⟩, hB'⟩ := hB
    have hkn : k < n := by simp only [List.length_cons] at hk; omega
    have hr' : k ∈ Region.ready md ops listed := by simpa using hr
    have hst : stOp P ops w k (wpStill P ops w Lq l) a := by unfold stOp; simp only [h0]; exact h
    obtain ⟨v, hy, hK⟩ := yieldsAt_of_stOp h0 hst
    refine midL_first h0 (Region.noSelect_spec hsel) hs hc hn hkn (fun listed' a' hL j hj => ?_) l.length listed a inv (Region.free_spec h0 hf) hr' hy
      (midL_lex hsel hs hc hn l (k + 1) _ _ (fun j hj => by have := hl (j + 1) (by simp; omega); simpa [Nat.add_assoc, Nat.add_comm 1 j] using this) (by simp only [List.length_cons] at hk; omega) (inv.set hr' hkn) hB' hK)
    have h2 := hL.1
    simp only [restB, Bool.and_eq_true, decide_eq_true_eq] at h2
    rw [h2.1] at hj
    have : j = n := by simpa using hj
    omega
/-- Behind the operation that may write: moves, to the region's post. -/
def MidQ (P : Program) (ops : Array Oper) (Q : Exit → Act → World → Prop) (r : List Oper) : Exit → Act → World → Prop
  | .normal, a, w => wpStill P ops w (fun a' => Q .normal a' w) r a
  | e, a, w => Q e a w
theorem upon_midQ {Q : Exit → Act → World → Prop} {r : List Oper} {o : Oper} {a : Act} {K : Act → World → Prop} {res : Result Next} (h : o.upon P a K (MidQ P ops Q r) res) : o.upon P a K Q res := by
  cases res with
  | ok n w' => cases n <;> exact h
  | halt x w' => cases x <;> exact h
theorem wp_region_mid {id : Nat} {Q : Exit → Act → World → Prop} {a : Act} {w : World} {l : List Oper} (n : Nat) (o : Oper) (r : List Oper) (hl : l.drop n = o :: r) (hm : P.follows .mixedOrders = true) (hB : midB .any l.toArray n = true)
    (h : wpStill P l.toArray { w with drawn := w.drawn + 1 } (fun a' => wpList P l.toArray (MidQ P l.toArray Q r) [o] a' { w with drawn := w.drawn + 1 }) (l.take n) a) : (Code.region id l.toArray true).wp P Q a w := by
  simp only [midB, Bool.and_eq_true, decide_eq_true_eq] at hB
  obtain ⟨⟨⟨⟨hsel, hn⟩, hs⟩, hc⟩, hlex⟩ := hB
  have hn' : n < l.length := by simpa using hn
  have htl : (l.take n).length = n := by simp; omega
  have hr : r = l.drop (n + 1) := by
    have := congrArg List.tail hl
    simpa using this.symm
  have hrl : r.length = l.toArray.size - n - 1 := by rw [hr]; simp; omega
  have ho : l.toArray[n]? = some o := by
    have : (l.drop n)[0]? = some o := by rw [hl]; rfl
    simpa [List.getElem?_drop] using this
  have inv0 : HeadInv .any l.toArray n (Array.replicate l.toArray.size false) :=
    ⟨by simp, fun j oj _ hl => (by rw [getD_replicate_false] at hl; cases hl), fun t _ ht => getD_in (by simpa using ht) (getD_replicate_false _ _)⟩
  have H := midL_lex (md := .any) hsel hs hc hn (l.take n) 0 _ a (fun j hj => by
    have hj' : j < n := by rw [htl] at hj; exact hj
    simp [hj']) (by simpa using htl) inv0 (by rw [htl]; exact hlex) h
  refine wp_region_any hm ?_
  have := wpAny_of_head (Q' := Q) (g := r.length + 1) (fun listed a' hL => by
    obtain ⟨h1, h2⟩ := hL
    simp only [restB, Bool.and_eq_true, decide_eq_true_eq] at h1
    refine ⟨fun h0 => (by rw [h1.1] at h0; cases h0), fun i hi => ?_⟩
    rw [h1.1] at hi
    obtain rfl : i = n := by simpa using hi
    unfold wpOp
    simp only [ho]
    have hK : ∀ a w, wpList P l.toArray (MidQ P l.toArray Q r) [] a w → wpAny P .any l.toArray Q r.length (listed.setIfInBounds i true) a w := fun a w h3 => by
      have h4 := wpAnyS_lex (md := .any) (P := P) (w := w) (Q := fun a' => Q .normal a' w) hsel r (i + 1) (listed.setIfInBounds i true) a (fun j => by rw [hr]; simp [List.getElem?_drop]) (by rw [hrl]; exact h1.2) h3
      exact wpAny_of_still (fun _ h => h) _ _ _ h4
    unfold wpList at h2
    split
    · rename_i hw
      rw [if_pos hw] at h2
      rcases h2 with h2 | h2
      · exact .inl (Oper.wp_mono hK (upon_midQ h2))
      · exact .inr h2
    · rename_i hw
      rw [if_neg hw] at h2
      exact hK _ _ h2) _ _ _ H
  rw [htl, show n + (r.length + 1) = l.toArray.size from by rw [hrl]; omega] at this
  exact this
end
end Go.Proofs.Ytniifefmjdjebaa
namespace Go.Proofs.Ytniifefmjdjebaa
open Go.RowKit
set_option linter.unusedVariables false
set_option linter.unusedSimpArgs false

/-- Where an object stands: its block, the value of its field V. -/
abbrev OH := Nat × Value
def optr (h : OH) : Value := .pointer (some ⟨h.1, 0, none⟩)
structure OCell (w : World) (h : OH) (a : Int) (x : Ob) (tgt : Int) : Prop where
  cells : w.heap[h.1]? = some (.cells #[.int .i64 a, .int .i64 x.kind, h.2, .int .i64 tgt] 116 (0, 0))
  row : w.ownsRow 0 2 1 h.2 x.vs.length (x.vs.map (Value.int .i64))
def HApart (a b : OH) : Prop := a.1 ≠ b.1 ∧ ∀ k, a.2.ownBlock = some k → b.2.ownBlock ≠ some k
/-- A row of objects: values, kinds and slots are those of the list. -/
structure RHalf (w : World) (v : Value) (hs : List OH) (l : List Ob) (tgt : Nat → Int) : Prop where
  row : w.ownsRow 0 113 1 v l.length (hs.map optr)
  obs : ∀ i h x, hs[i]? = some h → l[i]? = some x → OCell w h (adr l i) x (tgt i)
structure IsRef' (w : World) (q : Nat) (vl va : Value) (hl ha : List OH) (tl : Nat → Int) (s : AS) : Prop where
  top : w.heap[q]? = some (.cells #[.int .i64 s.semi, .int .i64 (tot s.used : Nat), vl, va] 107 (0, 0))
  used : RHalf w vl hl s.used tl
  ahead : RHalf w va ha s.ahead (fun i => (s.moved (adr s.ahead i)).getD 0)
  apart : (hl ++ ha).Pairwise HApart
  rows : ∀ k, vl.ownBlock = some k → va.ownBlock ≠ some k
  moved : ∀ a t, s.moved a = some t → 8 ≤ t
def RBlocks (q : Nat) (vl va : Value) (hs : List OH) (k : Nat) : Prop := k = q ∨ vl.ownBlock = some k ∨ va.ownBlock = some k ∨ ∃ h ∈ hs, h.1 = k ∨ h.2.ownBlock = some k
def IsRef (w : World) (q : Nat) (S : Nat → Prop) (s : AS) : Prop := ∃ vl va hl ha tl, IsRef' w q vl va hl ha tl s ∧ ∀ k, S k ↔ RBlocks q vl va (hl ++ ha) k
/-- What holds of every state of an arena. -/
structure AS.Good (s : AS) : Prop where
  lo : 256 ≤ s.semi
  hi : s.semi ≤ 1048576
  fits : tot s.used ≤ s.semi
  before : tot s.ahead ≤ 1048576
  used : ∀ x ∈ s.used, x.ok
  ahead : ∀ x ∈ s.ahead, x.ok
theorem IsArena.good {w : World} {p : Nat} {S : Nat → Prop} {s : AS} (h : IsArena w p S s) : s.Good := by
  obtain ⟨vb, vl, m, vb', vl', mo', mv, hp, h1, h2, h3, h4, h5, h6, h7, h8, h9, h10, h11, hS⟩ := h
  exact ⟨h10, h11, h9, h3.small, h1.ok, h3.ok⟩
theorem OCell.keep {T : Nat → Prop} {w w' : World} {h : OH} {a : Int} {x : Ob} {tgt : Int} (hc : OCell w h a x tgt) (hf : Fr T w w') (h1 : ¬ T h.1) (h2 : ∀ k, h.2.ownBlock = some k → ¬ T k) : OCell w' h a x tgt :=
  ⟨hf.heap hc.cells h1, hf.row hc.row h2⟩
theorem RHalf.length {w : World} {v : Value} {hs : List OH} {l : List Ob} {tgt : Nat → Int} (h : RHalf w v hs l tgt) : hs.length = l.length := by simpa using h.row.1
theorem RHalf.keep {T : Nat → Prop} {w w' : World} {v : Value} {hs : List OH} {l : List Ob} {tgt : Nat → Int} (h : RHalf w v hs l tgt) (hf : Fr T w w') (h1 : ∀ k, v.ownBlock = some k → ¬ T k) (h2 : ∀ h ∈ hs, ¬ T h.1 ∧ ∀ k, h.2.ownBlock = some k → ¬ T k) : RHalf w' v hs l tgt :=
  ⟨hf.row h.row h1, fun i o x hi hx => (h.obs i o x hi hx).keep hf (h2 o (List.mem_of_getElem? hi)).1 (h2 o (List.mem_of_getElem? hi)).2⟩
theorem RHalf.at {w : World} {v : Value} {hs : List OH} {l : List Ob} {tgt : Nat → Int} (h : RHalf w v hs l tgt) {o : OH} (ho : o ∈ hs) : ∃ i x, hs[i]? = some o ∧ l[i]? = some x ∧ OCell w o (adr l i) x (tgt i) := by
  obtain ⟨i, hi⟩ := List.mem_iff_getElem?.1 ho
  have hlt : i < l.length := by rw [← h.length]; exact (List.getElem?_eq_some_iff.1 hi).1
  exact ⟨i, l[i], hi, List.getElem?_eq_getElem hlt, h.obs i o _ hi (List.getElem?_eq_getElem hlt)⟩
theorem IsRef'.keep {T : Nat → Prop} {w w' : World} {q : Nat} {vl va : Value} {hl ha : List OH} {tl : Nat → Int} {s : AS} (h : IsRef' w q vl va hl ha tl s) (hf : Fr T w w') (hd : ∀ k, RBlocks q vl va (hl ++ ha) k → ¬ T k) : IsRef' w' q vl va hl ha tl s :=
  ⟨hf.heap h.top (hd _ (.inl rfl)),
   h.used.keep hf (fun k hk => hd k (.inr (.inl hk))) (fun o ho => ⟨hd _ (.inr (.inr (.inr ⟨o, List.mem_append_left _ ho, .inl rfl⟩))), fun k hk => hd k (.inr (.inr (.inr ⟨o, List.mem_append_left _ ho, .inr hk⟩)))⟩),
   h.ahead.keep hf (fun k hk => hd k (.inr (.inr (.inl hk)))) (fun o ho => ⟨hd _ (.inr (.inr (.inr ⟨o, List.mem_append_right _ ho, .inl rfl⟩))), fun k hk => hd k (.inr (.inr (.inr ⟨o, List.mem_append_right _ ho, .inr hk⟩)))⟩),
   h.apart, h.rows, h.moved⟩
theorem IsRef.keep {T : Nat → Prop} {w w' : World} {q : Nat} {S : Nat → Prop} {s : AS} (h : IsRef w q S s) (hf : Fr T w w') (hd : ∀ k, S k → ¬ T k) : IsRef w' q S s := by
  obtain ⟨vl, va, hl, ha, tl, h1, h2⟩ := h
  exact ⟨vl, va, hl, ha, tl, h1.keep hf (fun k hk => hd k ((h2 k).2 hk)), h2⟩
theorem IsRef.drewN {w : World} {q : Nat} {S : Nat → Prop} {s : AS} (h : IsRef w q S s) (n : Nat) : IsRef (w.drewN n) q S s := h.keep (T := fun _ => False) (Fr.drewN _ w n) (fun _ _ e => e)
/-- The block of a row is one of cells of its elements. -/
theorem row_cells {w : World} {base e size n : Nat} {v : Value} {xs : List Value} (h : w.ownsRow base e size v n xs) {k : Nat} (hk : v.ownBlock = some k) : ∃ cur, w.heap[k]? = some (.cells cur e (0, 0)) := by
  rcases h.2 with ⟨rfl, _⟩ | ⟨g, cap, cur, rfl, _, hg, _⟩
  · cases hk
  · obtain rfl : g = k := by simpa [Value.ownBlock] using hk
    exact ⟨cur, hg⟩
theorem blk_ty {w : World} {k : Nat} {c1 c2 : Array Value} {t1 t2 : TypeId} {f1 f2 : Nat × Nat} (h1 : w.heap[k]? = some (.cells c1 t1 f1)) (h2 : w.heap[k]? = some (.cells c2 t2 f2)) : t1 = t2 := by
  rw [h1] at h2
  simp only [Option.some.injEq, Obj.cells.injEq] at h2
  exact h2.2.1
theorem IsRef.lt {w : World} {q : Nat} {S : Nat → Prop} {s : AS} (h : IsRef w q S s) {k : Nat} (hk : S k) : k < w.heap.size := by
  obtain ⟨vl, va, hl, ha, tl, h1, h2⟩ := h
  rcases (h2 k).1 hk with rfl | hk | hk | ⟨o, ho, hk⟩
  · exact (Array.getElem?_eq_some_iff.1 h1.top).1
  · exact row_lt h1.used.row hk
  · exact row_lt h1.ahead.row hk
  · have : ∃ a x tgt, OCell w o a x tgt := by
      rcases List.mem_append.1 ho with ho | ho
      · obtain ⟨i, x, _, _, hc⟩ := h1.used.at ho; exact ⟨_, _, _, hc⟩
      · obtain ⟨i, x, _, _, hc⟩ := h1.ahead.at ho; exact ⟨_, _, _, hc⟩
    obtain ⟨a, x, tgt, hc⟩ := this
    rcases hk with rfl | hk
    · exact (Array.getElem?_eq_some_iff.1 hc.cells).1
    · exact row_lt hc.row hk
theorem findOb_none {l : List Ob} {a : Int} (h : ∀ j, j < l.length → adr l j ≠ a) : findOb 0 l a = none := by
  cases hx : findOb 0 l a with
  | none => rfl
  | some x =>
    exfalso
    obtain ⟨l1, l2, rfl, rfl⟩ := findOb_split l 0 a x hx
    apply h l1.length (by simp)
    unfold adr
    rw [List.take_left]
    omega
/-- Where an object of that address stands in a list. -/
def FoundAt (hs : List OH) (l : List Ob) (a : Int) (v : Value) : Prop :=
  (∃ j h x, hs[j]? = some h ∧ l[j]? = some x ∧ adr l j = a ∧ findOb 0 l a = some x ∧ v = optr h) ∨ (findOb 0 l a = none ∧ v = .pointer none)
set_option maxRecDepth 100000 in
set_option maxHeartbeats 400000 in
theorem find_any (v : Value) (hs : List OH) (l : List Ob) (tgt : Nat → Int) (a : Int) (w : World) (h : RHalf w v hs l tgt) (hl : tot l ≤ 1048576) :
    Calls Try.prog 82 #[v, .int .i64 a] w fun e w' => ∃ u, e = .returned u ∧ FoundAt hs l a u ∧ w' = w := by
  obtain ⟨av, cv, rfl⟩ := row_form h.row
  have H := Lib.hid h; clear h
  have hll := len_le_tot l
  obtain ⟨n, hn⟩ : ∃ n, n = l.length := ⟨_, rfl⟩
  have Hn := Lib.hid hn
  rw [← hn] at hll ⊢
  clear hn
  go_enter Try.func82, Try.ntmps82
  go_wp2
  go_loop [5] (fun i => ∃ k : Nat, k ≤ n ∧ i = .int .i64 k ∧ ∀ j, j < k → adr l j ≠ a) (fun i => (n - intOf i).toNat)
  case atStart => exact ⟨0, by omega, rfl, fun j hj => by omega⟩
  case round =>
    obtain ⟨k, hk, rfl, hne⟩ := hrel
    have HNe := Lib.hid hne; clear hne
    by_cases hlt : k < n
    · have hr := H.out.row
      rw [← Hn.out] at hr
      obtain ⟨g, c, _, e1, _, _, _⟩ := row_addr hr (by omega)
      simp only [Value.slice.injEq, true_and] at e1
      obtain ⟨rfl, rfl⟩ := e1
      have hkl : k < l.length := by rw [← Hn.out]; exact hlt
      have hkh : k < hs.length := by rw [H.out.length]; exact hkl
      obtain ⟨o, ho⟩ : ∃ o, o = hs[k] := ⟨_, rfl⟩
      have ho' : hs[k]? = some o := by rw [List.getElem?_eq_getElem hkh, ho]
      have hc := row_cell hr (j := k) (u := optr o) (by rw [List.getElem?_map, ho']; rfl)
      have hob := H.out.obs k o _ ho' (List.getElem?_eq_getElem hkl)
      have hc0 := blk_cell hob.cells 0
      simp only [List.getElem?_toArray, List.getElem?_cons_succ, List.getElem?_cons_zero] at hc0
      have Ho := Lib.hid ho'
      have Hkl := Lib.hid hkl
      obtain ⟨ob, ov⟩ := o
      simp only [optr] at hc hc0
      clear hr hkl hkh hob ho ho'
      obtain ⟨d, hd⟩ : ∃ d, d = adr l k := ⟨_, rfl⟩
      rw [← hd] at hc0
      have Hd := Lib.hid hd
      clear hd
      by_cases hda : d = a
      · subst hda
        go_wp2
        go_ret
        exact ⟨_, rfl, .inl ⟨k, _, l[k]'Hkl.out, Ho.out, List.getElem?_eq_getElem Hkl.out, Hd.out.symm, by rw [Hd.out]; exact find_adr l k Hkl.out, rfl⟩, rfl⟩
      · have hb : (d == a) = false := by rw [beq_eq_false_iff_ne]; exact hda
        go_wp2
        go_round
        case rel => exact ⟨k + 1, by omega, by go_num, fun j hj => by
          by_cases hjk : j = k
          · subst hjk; rw [← Hd.out]; exact hda
          · exact HNe.out j (by omega)⟩
        case measure => simp [intOf]; omega
    · have Hnone := Lib.hid (findOb_none (l := l) (a := a) (fun j hj => HNe.out j (by have := Hn.out; omega)))
      go_wp2
      go_ret
      exact ⟨_, rfl, .inr ⟨Hnone.out, rfl⟩, rfl⟩
end Go.Proofs.Ytniifefmjdjebaa
namespace Go.Proofs.Ytniifefmjdjebaa
open Go.RowKit
set_option linter.unusedVariables false
set_option linter.unusedSimpArgs false

theorem AS.Good.small {s : AS} (h : s.Good) : tot s.used ≤ 1048576 := Nat.le_trans h.fits h.hi
set_option maxRecDepth 100000 in
set_option maxHeartbeats 400000 in
theorem refAt_any (q : Nat) (a : Int) (vl va : Value) (hl ha : List OH) (tl : Nat → Int) (s : AS) (w : World) (h : IsRef' w q vl va hl ha tl s) (hg : s.Good) :
    Calls Try.prog 76 #[.pointer (some ⟨q, 0, none⟩), .int .i64 a] w fun e w' => ∃ u, e = .returned u ∧ FoundAt hl s.used a u ∧ w' = w := by
  have c2 := blk_cell h.top 2
  simp only [List.getElem?_toArray, List.getElem?_cons_succ, List.getElem?_cons_zero] at c2
  have H := Lib.hid (And.intro h hg.small); clear h hg
  go_enter Try.func76, Try.ntmps76
  go_wp2_with fail
  refine (find_any vl hl s.used tl a _ H.out.1.used H.out.2).mono ?_
  rintro e w1 ⟨u, rfl, hf, rfl⟩
  have HF := Lib.hid hf; clear hf
  go_wp2
  go_ret
  exact ⟨u, rfl, HF.out, rfl⟩
set_option maxRecDepth 100000 in
set_option maxHeartbeats 1000000 in
theorem refGet_any (q : Nat) (a n : Int) (S : Nat → Prop) (s : AS) (w : World) (h : IsRef w q S s) (hg : s.Good) :
    Calls Try.prog 74 #[.pointer (some ⟨q, 0, none⟩), .int .i64 a, .int .i64 n] w fun e w' => e = .returned (.tuple #[.int .i64 (getV (findOb 0 s.used a) n), .int .i64 (slotE (findOb 0 s.used a) n)]) ∧ ∃ k, w' = w.drewN k := by
  obtain ⟨vl, va, hl, ha, tl, h1, h2⟩ := h
  have H := Lib.hid (And.intro h1 hg); clear h1 hg h2
  go_enter Try.func74, Try.ntmps74
  go_wp2_with fail
  refine (refAt_any q a vl va hl ha tl s _ H.out.1 H.out.2).mono ?_
  rintro e w1 ⟨u, rfl, hf, rfl⟩
  rcases hf with ⟨j, o, x, hj, hx, hadr, hfd, rfl⟩ | ⟨hfd, rfl⟩
  · have hob := H.out.1.used.obs j o x hj hx
    have hok := H.out.2.used x (List.mem_of_getElem? hx)
    have hc2 := blk_cell hob.cells 2
    simp only [List.getElem?_toArray, List.getElem?_cons_succ, List.getElem?_cons_zero] at hc2
    have hr := hob.row
    have hvl := hok.2.1
    obtain ⟨ob, ov⟩ := o
    simp only [optr] at hc2 hr ⊢
    obtain ⟨av, cv, rfl⟩ := row_form hr
    have Hfd := Lib.hid hfd
    clear hob hok hj hx hadr hfd
    by_cases hbad : n < 0 ∨ n ≥ x.vs.length
    · have Hv := Lib.hid (show getV (some x) n = 0 ∧ slotE (some x) n = 1 from ⟨if_pos hbad, if_pos hbad⟩)
      clear hr
      rcases Classical.em (n < 0) with h0 | h0
      · clear hbad
        go_wp2
        go_ret2
        exact ⟨by rw [Hfd.out, Hv.out.1, Hv.out.2]; rfl, 0, rfl⟩
      · have h3 : n ≥ x.vs.length := hbad.elim (fun h => absurd h h0) id
        clear hbad
        go_wp2
        go_ret2
        exact ⟨by rw [Hfd.out, Hv.out.1, Hv.out.2]; rfl, 0, rfl⟩
    · have n0 : 0 ≤ n := by omega
      have n1 : n < x.vs.length := by omega
      obtain ⟨i, rfl⟩ := Int.eq_ofNat_of_zero_le n0
      obtain ⟨g, c, _, e1, _, _, _⟩ := row_addr hr (by omega)
      simp only [Value.slice.injEq, true_and] at e1
      obtain ⟨rfl, rfl⟩ := e1
      have hcell := row_int hr (j := i) (by omega)
      have Hv := Lib.hid (show getV (some x) i = x.vs[i]?.getD 0 ∧ slotE (some x) i = 0 from ⟨by
        show (if (i : Int) < 0 ∨ (i : Int) ≥ x.vs.length then 0 else x.vs.getD (i : Int).toNat 0) = _
        rw [if_neg hbad, List.getD_eq_getElem?_getD]; rfl, if_neg hbad⟩)
      obtain ⟨y, hy⟩ : ∃ y, y = x.vs[i]?.getD 0 := ⟨_, rfl⟩
      rw [← hy] at hcell Hv
      clear hy hr hbad
      go_wp2
      go_ret2
      exact ⟨by rw [Hfd.out, Hv.out.1, Hv.out.2]; rfl, 0, rfl⟩
  · have Hfd := Lib.hid hfd
    clear hfd
    go_wp2
    go_ret2
    exact ⟨by rw [Hfd.out]; rfl, 0, rfl⟩
set_option maxRecDepth 100000 in
set_option maxHeartbeats 400000 in
theorem refRoom_any (q : Nat) (n : Int) (S : Nat → Prop) (s : AS) (w : World) (h : IsRef w q S s) (hg : s.Good) :
    Calls Try.prog 40 #[.pointer (some ⟨q, 0, none⟩), .int .i64 n] w fun e w' => e = .returned (.bool (roomB s n)) ∧ ∃ k, w' = w.drewN k := by
  obtain ⟨vl, va, hl, ha, tl, h1, h2⟩ := h
  have c0 := blk_cell h1.top 0
  have c7 := blk_cell h1.top 1
  simp only [List.getElem?_toArray, List.getElem?_cons_succ, List.getElem?_cons_zero] at c0 c7
  have hs1 := hg.small
  have hs2 := hg.hi
  clear h1 h2 hg
  by_cases n0 : 0 ≤ n
  · by_cases n1 : n ≤ 65536
    · by_cases n2 : 16 + 8 * n ≤ (s.semi : Int) - tot s.used
      · have Hr := Lib.hid (roomB_true ⟨n0, n1, n2⟩)
        go_enter Try.func40, Try.ntmps40
        go_wp2
        go_quiet (fail)
        go_wp2
        go_ret
        exact ⟨by rw [Hr.out]; rfl, _, rfl⟩
      · have Hr := Lib.hid (roomB_false (s := s) (n := n) (fun h => n2 h.2.2))
        have hb : decide (16 + 8 * n ≤ (s.semi : Int) - tot s.used) = false := by simpa using n2
        go_enter Try.func40, Try.ntmps40
        go_wp2
        go_quiet (fail)
        go_wp2
        go_ret
        exact ⟨by rw [Hr.out]; rfl, _, rfl⟩
    · have Hr := Lib.hid (roomB_false (s := s) (n := n) (fun h => n1 h.2.1))
      have hb : decide (n ≤ 65536) = false := by simpa using n1
      go_enter Try.func40, Try.ntmps40
      go_wp2
      go_quiet (fail)
      go_wp2
      go_ret
      exact ⟨by rw [Hr.out]; rfl, _, rfl⟩
  · have Hr := Lib.hid (roomB_false (s := s) (n := n) (fun h => n0 h.1))
    have hb : decide (0 ≤ n) = false := by simpa using n0
    go_enter Try.func40, Try.ntmps40
    go_wp2
    go_quiet (fail)
    go_wp2
    go_ret
    exact ⟨by rw [Hr.out]; rfl, _, rfl⟩
/-- The first k addresses. -/
def addrsK (l : List Ob) (k : Nat) : List Value := ((addrs 0 l).take k).map (Value.int .i64)
theorem addrsK_length (l : List Ob) (k : Nat) (h : k ≤ l.length) : (addrsK l k).length = k := by simp [addrsK, addrs_length]; omega
theorem addrsK_succ (l : List Ob) (k : Nat) (h : k < l.length) : addrsK l k ++ [.int .i64 (adr l k)] = addrsK l (k + 1) := by
  unfold addrsK
  have hl : k < (addrs 0 l).length := by rw [addrs_length]; exact h
  rw [List.take_succ_eq_append_getElem hl, List.map_append]
  have := addrs_adr l k h
  rw [List.getElem?_eq_getElem hl] at this
  simp at this
  rw [this]; rfl
theorem addrsK_all (l : List Ob) : addrsK l l.length = (addrs 0 l).map (Value.int .i64) := by
  unfold addrsK; rw [List.take_of_length_le (by rw [addrs_length]; omega)]
set_option maxRecDepth 100000 in
set_option maxHeartbeats 1000000 in
theorem refAll_any (q : Nat) (S : Nat → Prop) (s : AS) (w : World) (h : IsRef w q S s) (hg : s.Good) :
    Calls Try.prog 41 #[.pointer (some ⟨q, 0, none⟩)] w fun e w' => NewRow w w' 2 ((addrs 0 s.used).map (Value.int .i64)) e := by
  obtain ⟨vl, va, hl, ha, tl, h1, h2⟩ := h
  obtain ⟨i2, hi2, hz2, hs2, hb2⟩ := info_parts info2
  have hll := len_le_tot s.used
  have hsm := hg.small
  have H := Lib.hid h1; clear h1 h2 hg
  obtain ⟨n, hn⟩ : ∃ n, n = s.used.length := ⟨_, rfl⟩
  have Hn := Lib.hid hn
  rw [← hn] at hll
  clear hn
  obtain ⟨av, cv, hv⟩ := row_form H.out.used.row
  rw [← Hn.out] at hv
  subst hv
  go_enter Try.func41, Try.ntmps41
  go_wp2
  go_loopw [3, 4] (fun v i wr => ∃ k : Nat, k ≤ n ∧ i = .int .i64 k ∧ wr.ownsRow 0 2 1 v k (addrsK s.used k) ∧ Fr (fun _ => False) w wr ∧ ∀ g, v.ownBlock = some g → w.heap.size ≤ g) (fun _ i _ => (n - intOf i).toNat)
  case atStart => exact ⟨0, by omega, rfl, World.ownsRow_nil _ _ _ _, Fr.refl _ _, by simp [Value.ownBlock]⟩
  case round =>
    obtain ⟨k, hk, rfl, hown, hfr, hnew⟩ := hrel
    have HK := Lib.hid (And.intro hown (And.intro hfr hnew)); clear hown hfr hnew
    have hi := H.out.keep (T := fun _ => False) HK.out.2.1 (fun _ _ h => h)
    have c2 := blk_cell hi.top 2
    simp only [List.getElem?_toArray, List.getElem?_cons_succ, List.getElem?_cons_zero] at c2
    by_cases hlt : k < n
    · have hr := hi.used.row
      rw [← Hn.out] at hr
      obtain ⟨g, c, _, e1, _, _, _⟩ := row_addr hr (by omega)
      simp only [Value.slice.injEq, true_and] at e1
      obtain ⟨rfl, rfl⟩ := e1
      have hkl : k < s.used.length := by rw [← Hn.out]; exact hlt
      have hkh : k < hl.length := by rw [hi.used.length]; exact hkl
      obtain ⟨o, ho⟩ : ∃ o, o = hl[k] := ⟨_, rfl⟩
      have ho' : hl[k]? = some o := by rw [List.getElem?_eq_getElem hkh, ho]
      have hc := row_cell hr (j := k) (u := optr o) (by rw [List.getElem?_map, ho']; rfl)
      have hob := hi.used.obs k o _ ho' (List.getElem?_eq_getElem hkl)
      have hc0 := blk_cell hob.cells 0
      simp only [List.getElem?_toArray, List.getElem?_cons_succ, List.getElem?_cons_zero] at hc0
      have Hk1 := Lib.hid (addrsK_succ s.used k hkl)
      obtain ⟨ob, ov⟩ := o
      simp only [optr] at hc hc0
      clear hr hkl hkh hob ho ho' hi
      obtain ⟨d, hd⟩ : ∃ d, d = adr s.used k := ⟨_, rfl⟩
      rw [← hd] at hc0 Hk1
      clear hd
      go_wp2_with (first | (at_builtin; refine wpList_append_own_at _ rfl _ _ 38 rfl 0 2 i2 (.int .i64 0) 1 8 und38 hi2 hz2 hs2 hb2 rfl (by decide) _ _ _ rfl (HK.out.1.alloc _) ⟨wr.heap.size, 0, none⟩ 1 1 [.int .i64 d] rfl rfl ?c1 ?c2 ?c3 ?c4 ?c5 ?_))
      case c1 => exact cell_one_new _ _ _
      case c2 => intro u hu; simp at hu; subst hu; rfl
      case c3 => unfold maxLen; omega
      case c4 => omega
      case c5 => exact Nat.zero_le _
      intro v7 w7 hown7 hgr7 _ hloc7
      have HG := Lib.hid (And.intro hown7 (And.intro hgr7 hloc7))
      clear hown7 hgr7 hloc7
      go_wp2
      go_roundw
      case rel =>
        have hf1 : Fr (fun k => u3.ownBlock = some k) wr w7 := Fr.of_grown (grown_trans (World.grownBy_alloc wr _ _) HG.out.2.1) (fun k hk => hk)
        refine ⟨k + 1, by omega, by go_num, by rw [← Hk1.out]; exact HG.out.1, HK.out.2.1.trans hf1 (fun _ h => h) (fun i hi e => ?_), fun g hg => ?_⟩
        · have := HK.out.2.2 i e; omega
        · rcases HG.out.2.2 with h4 | h4
          · rw [h4] at hg; exact HK.out.2.2 g hg
          · rw [h4] at hg
            have := HK.out.2.1.size
            simp at hg; omega
      case measure => simp [intOf]; omega
    · obtain rfl : k = n := by omega
      have Hfin := Lib.hid (show NewRow w wr 2 ((addrs 0 s.used).map (Value.int .i64)) (.returned u3) from by
        refine ⟨_, rfl, ?_, HK.out.2.1, HK.out.2.2⟩
        have h5 := HK.out.1
        rw [show addrsK s.used k = (addrs 0 s.used).map (Value.int .i64) from by rw [Hn.out]; exact addrsK_all s.used] at h5
        rw [show ((addrs 0 s.used).map (Value.int .i64)).length = k from by rw [List.length_map, addrs_length]; exact Hn.out.symm]
        exact h5)
      clear hi
      go_wp2
      go_ret
      exact Hfin.out
end Go.Proofs.Ytniifefmjdjebaa
namespace Go.Proofs.Ytniifefmjdjebaa
open Go.RowKit
set_option linter.unusedVariables false
set_option linter.unusedSimpArgs false

/-- A row that is appended to, in its block or in a new one. -/
def Onto (w w' : World) (e : TypeId) (v v' : Value) (xs : List Value) : Prop := w'.ownsRow 0 e 1 v' xs.length xs ∧ w.grownBy w' v.ownBlock ∧ ∀ g, v'.ownBlock = some g → v.ownBlock = some g ∨ w.heap.size ≤ g
theorem Onto.refl {w : World} {e : TypeId} {v : Value} {xs : List Value} (h : w.ownsRow 0 e 1 v xs.length xs) : Onto w w e v v xs := ⟨h, ⟨rfl, rfl, rfl, Nat.le_refl _, fun _ _ _ => rfl⟩, fun _ h => .inl h⟩
theorem grown_mono {a b c : World} {r1 r2 : Option Nat} (h : a.grownBy b r1) (k : b.grownBy c r2) (hr : ∀ g, r2 = some g → r1 = some g ∨ a.heap.size ≤ g) : a.grownBy c r1 := by
  refine ⟨k.os.trans h.os, k.tape.trans h.tape, k.output.trans h.output, Nat.le_trans h.size k.size, fun i hi hn => ?_⟩
  refine (k.block i (Nat.lt_of_lt_of_le hi h.size) (fun e => ?_)).trans (h.block i hi hn)
  rcases hr i e.symm with h1 | h1
  · exact hn h1.symm
  · omega
theorem Onto.trans {w w' w'' : World} {e : TypeId} {v v' v'' : Value} {xs ys : List Value} (h : Onto w w' e v v' xs) (k : Onto w' w'' e v' v'' ys) : Onto w w'' e v v'' ys :=
  ⟨k.1, grown_mono h.2.1 k.2.1 h.2.2, fun g hg => by
    rcases k.2.2 g hg with h1 | h1
    · exact h.2.2 g h1
    · have := h.2.1.size; right; omega⟩
theorem Onto.one {w w' : World} {e : TypeId} {v v' x : Value} {xs : List Value} {o : Obj} (h1 : w'.ownsRow 0 e 1 v' (xs.length + 1) (xs ++ [x])) (h2 : (w.alloc o).grownBy w' v.ownBlock) (h3 : v'.ownBlock = v.ownBlock ∨ v'.ownBlock = some (w.heap.size + 1)) : Onto w w' e v v' (xs ++ [x]) := by
  refine ⟨by simpa using h1, grown_trans (World.grownBy_alloc w o _) h2, fun g hg => ?_⟩
  rcases h3 with h4 | h4
  · exact .inl (h4 ▸ hg)
  · rw [h4] at hg; right; simp at hg; omega
/-- A row with the first k of eight bytes behind it. -/
def wordK (xs : List Value) (n : Int) (k : Nat) : List Value := xs ++ ((w8 n).take k).map (Value.int .u8)
theorem wordK_length (xs : List Value) (n : Int) (k : Nat) (h : k ≤ 8) : (wordK xs n k).length = xs.length + k := by simp [wordK, w8_length]; omega
theorem wordK_succ (xs : List Value) (n : Int) (k : Nat) (d : Int) (hk : k < 8) (hd : d = (w8 n)[k]?.getD 0) : wordK xs n k ++ [.int .u8 d] = wordK xs n (k + 1) := by
  have hl : k < (w8 n).length := by rw [w8_length]; exact hk
  rw [List.getElem?_eq_getElem hl, Option.getD_some] at hd
  unfold wordK
  rw [List.take_succ_eq_append_getElem hl, List.map_append, hd, List.append_assoc]; rfl
set_option maxRecDepth 100000 in
set_option maxHeartbeats 4000000 in
theorem word_any (v : Value) (n : Int) (xs : List Value) (w : World) (h : w.ownsRow 0 5 1 v xs.length xs) (hn : I64 n) (hm : xs.length + 8 ≤ 9000000) :
    Calls Try.prog 83 #[v, .int .i64 n] w fun e w' => ∃ v', e = .returned v' ∧ Onto w w' 5 v v' (xs ++ (w8 n).map (Value.int .u8)) := by
  obtain ⟨i5, hi5, hz5, hs5, hb5⟩ := info_parts info5
  have H := Lib.hid h; clear h
  obtain ⟨hn1, hn2⟩ := hn
  go_enter Try.func83, Try.ntmps83
  go_wp2
  go_loopw [0, 5] (fun u i wr => ∃ k : Nat, k ≤ 8 ∧ i = .int .i64 (56 - 8 * k) ∧ Onto w wr 5 v u (wordK xs n k)) (fun _ i _ => (intOf i + 8).toNat)
  case atStart => exact ⟨0, by omega, rfl, by simpa [wordK] using Onto.refl H.out⟩
  case round =>
    obtain ⟨k, hk, rfl, ho⟩ := hrel
    have HO := Lib.hid ho; clear ho
    have hkl := wordK_length xs n k hk
    by_cases hlt : k < 8
    · have hr := HO.out.1
      rw [hkl] at hr
      have Hr := Lib.hid hr
      clear hr hkl
      have hcases : k = 0 ∨ k = 1 ∨ k = 2 ∨ k = 3 ∨ k = 4 ∨ k = 5 ∨ k = 6 ∨ k = 7 := by omega
      rcases hcases with rfl | rfl | rfl | rfl | rfl | rfl | rfl | rfl
      · have Hd := Lib.hid (wordK_succ xs n 0 (IntKind.u64.wrap n / 72057594037927936 % 256) (by decide) (by rw [IntKind.wrap_u64]; simp only [w8, byteAt, List.getElem?_cons_zero, List.getElem?_cons_succ, Option.getD_some, Nat.reduceSub, Int.reducePow]; omega))
        go_wp2_with (first | (at_builtin; refine wpList_append_own_at _ rfl _ _ 33 rfl 0 5 i5 (.int .u8 0) 1 1 und33 hi5 hz5 hs5 hb5 rfl (by decide) _ _ _ rfl (Hr.out.alloc _) ⟨wr.heap.size, 0, none⟩ 1 1 [.int .u8 (IntKind.u64.wrap n / 72057594037927936 % 256)] rfl rfl ?c1 ?c2 ?c3 ?c4 ?c5 ?_))
        case c1 => exact cell_one_new _ _ _
        case c2 => intro u hu; simp at hu; subst hu; rfl
        case c3 => unfold maxLen; omega
        case c4 => omega
        case c5 => exact Nat.zero_le _
        intro v7 w7 hown7 hgr7 _ hloc7
        have HG := Lib.hid (HO.out.trans (Onto.one (x := .int .u8 (IntKind.u64.wrap n / 72057594037927936 % 256)) (by rw [wordK_length xs n 0 (by decide)]; exact hown7) hgr7 (by simpa using hloc7)))
        clear hown7 hgr7 hloc7
        go_wp2
        go_roundw
        case rel => exact ⟨0 + 1, by omega, by go_num, by rw [← Hd.out]; exact HG.out⟩
        case measure => simp [intOf]
      · have Hd := Lib.hid (wordK_succ xs n 1 (IntKind.u64.wrap n / 281474976710656 % 256) (by decide) (by rw [IntKind.wrap_u64]; simp only [w8, byteAt, List.getElem?_cons_zero, List.getElem?_cons_succ, Option.getD_some, Nat.reduceSub, Int.reducePow]; omega))
        go_wp2_with (first | (at_builtin; refine wpList_append_own_at _ rfl _ _ 33 rfl 0 5 i5 (.int .u8 0) 1 1 und33 hi5 hz5 hs5 hb5 rfl (by decide) _ _ _ rfl (Hr.out.alloc _) ⟨wr.heap.size, 0, none⟩ 1 1 [.int .u8 (IntKind.u64.wrap n / 281474976710656 % 256)] rfl rfl ?c1 ?c2 ?c3 ?c4 ?c5 ?_))
        case c1 => exact cell_one_new _ _ _
        case c2 => intro u hu; simp at hu; subst hu; rfl
        case c3 => unfold maxLen; omega
        case c4 => omega
        case c5 => exact Nat.zero_le _
        intro v7 w7 hown7 hgr7 _ hloc7
        have HG := Lib.hid (HO.out.trans (Onto.one (x := .int .u8 (IntKind.u64.wrap n / 281474976710656 % 256)) (by rw [wordK_length xs n 1 (by decide)]; exact hown7) hgr7 (by simpa using hloc7)))
        clear hown7 hgr7 hloc7
        go_wp2
        go_roundw
        case rel => exact ⟨1 + 1, by omega, by go_num, by rw [← Hd.out]; exact HG.out⟩
        case measure => simp [intOf]
      · have Hd := Lib.hid (wordK_succ xs n 2 (IntKind.u64.wrap n / 1099511627776 % 256) (by decide) (by rw [IntKind.wrap_u64]; simp only [w8, byteAt, List.getElem?_cons_zero, List.getElem?_cons_succ, Option.getD_some, Nat.reduceSub, Int.reducePow]; omega))
        go_wp2_with (first | (at_builtin; refine wpList_append_own_at _ rfl _ _ 33 rfl 0 5 i5 (.int .u8 0) 1 1 und33 hi5 hz5 hs5 hb5 rfl (by decide) _ _ _ rfl (Hr.out.alloc _) ⟨wr.heap.size, 0, none⟩ 1 1 [.int .u8 (IntKind.u64.wrap n / 1099511627776 % 256)] rfl rfl ?c1 ?c2 ?c3 ?c4 ?c5 ?_))
        case c1 => exact cell_one_new _ _ _
        case c2 => intro u hu; simp at hu; subst hu; rfl
        case c3 => unfold maxLen; omega
        case c4 => omega
        case c5 => exact Nat.zero_le _
        intro v7 w7 hown7 hgr7 _ hloc7
        have HG := Lib.hid (HO.out.trans (Onto.one (x := .int .u8 (IntKind.u64.wrap n / 1099511627776 % 256)) (by rw [wordK_length xs n 2 (by decide)]; exact hown7) hgr7 (by simpa using hloc7)))
        clear hown7 hgr7 hloc7
        go_wp2
        go_roundw
        case rel => exact ⟨2 + 1, by omega, by go_num, by rw [← Hd.out]; exact HG.out⟩
        case measure => simp [intOf]
      · have Hd := Lib.hid (wordK_succ xs n 3 (IntKind.u64.wrap n / 4294967296 % 256) (by decide) (by rw [IntKind.wrap_u64]; simp only [w8, byteAt, List.getElem?_cons_zero, List.getElem?_cons_succ, Option.getD_some, Nat.reduceSub, Int.reducePow]; omega))
        go_wp2_with (first | (at_builtin; refine wpList_append_own_at _ rfl _ _ 33 rfl 0 5 i5 (.int .u8 0) 1 1 und33 hi5 hz5 hs5 hb5 rfl (by decide) _ _ _ rfl (Hr.out.alloc _) ⟨wr.heap.size, 0, none⟩ 1 1 [.int .u8 (IntKind.u64.wrap n / 4294967296 % 256)] rfl rfl ?c1 ?c2 ?c3 ?c4 ?c5 ?_))
        case c1 => exact cell_one_new _ _ _
        case c2 => intro u hu; simp at hu; subst hu; rfl
        case c3 => unfold maxLen; omega
        case c4 => omega
        case c5 => exact Nat.zero_le _
        intro v7 w7 hown7 hgr7 _ hloc7
        have HG := Lib.hid (HO.out.trans (Onto.one (x := .int .u8 (IntKind.u64.wrap n / 4294967296 % 256)) (by rw [wordK_length xs n 3 (by decide)]; exact hown7) hgr7 (by simpa using hloc7)))
        clear hown7 hgr7 hloc7
        go_wp2
        go_roundw
        case rel => exact ⟨3 + 1, by omega, by go_num, by rw [← Hd.out]; exact HG.out⟩
        case measure => simp [intOf]
      · have Hd := Lib.hid (wordK_succ xs n 4 (IntKind.u64.wrap n / 16777216 % 256) (by decide) (by rw [IntKind.wrap_u64]; simp only [w8, byteAt, List.getElem?_cons_zero, List.getElem?_cons_succ, Option.getD_some, Nat.reduceSub, Int.reducePow]; omega))
        go_wp2_with (first | (at_builtin; refine wpList_append_own_at _ rfl _ _ 33 rfl 0 5 i5 (.int .u8 0) 1 1 und33 hi5 hz5 hs5 hb5 rfl (by decide) _ _ _ rfl (Hr.out.alloc _) ⟨wr.heap.size, 0, none⟩ 1 1 [.int .u8 (IntKind.u64.wrap n / 16777216 % 256)] rfl rfl ?c1 ?c2 ?c3 ?c4 ?c5 ?_))
        case c1 => exact cell_one_new _ _ _
        case c2 => intro u hu; simp at hu; subst hu; rfl
        case c3 => unfold maxLen; omega
        case c4 => omega
        case c5 => exact Nat.zero_le _
        intro v7 w7 hown7 hgr7 _ hloc7
        have HG := Lib.hid (HO.out.trans (Onto.one (x := .int .u8 (IntKind.u64.wrap n / 16777216 % 256)) (by rw [wordK_length xs n 4 (by decide)]; exact hown7) hgr7 (by simpa using hloc7)))
        clear hown7 hgr7 hloc7
        go_wp2
        go_roundw
        case rel => exact ⟨4 + 1, by omega, by go_num, by rw [← Hd.out]; exact HG.out⟩
        case measure => simp [intOf]
      · have Hd := Lib.hid (wordK_succ xs n 5 (IntKind.u64.wrap n / 65536 % 256) (by decide) (by rw [IntKind.wrap_u64]; simp only [w8, byteAt, List.getElem?_cons_zero, List.getElem?_cons_succ, Option.getD_some, Nat.reduceSub, Int.reducePow]; omega))
        go_wp2_with (first | (at_builtin; refine wpList_append_own_at _ rfl _ _ 33 rfl 0 5 i5 (.int .u8 0) 1 1 und33 hi5 hz5 hs5 hb5 rfl (by decide) _ _ _ rfl (Hr.out.alloc _) ⟨wr.heap.size, 0, none⟩ 1 1 [.int .u8 (IntKind.u64.wrap n / 65536 % 256)] rfl rfl ?c1 ?c2 ?c3 ?c4 ?c5 ?_))
        case c1 => exact cell_one_new _ _ _
        case c2 => intro u hu; simp at hu; subst hu; rfl
        case c3 => unfold maxLen; omega
        case c4 => omega
        case c5 => exact Nat.zero_le _
        intro v7 w7 hown7 hgr7 _ hloc7
        have HG := Lib.hid (HO.out.trans (Onto.one (x := .int .u8 (IntKind.u64.wrap n / 65536 % 256)) (by rw [wordK_length xs n 5 (by decide)]; exact hown7) hgr7 (by simpa using hloc7)))
        clear hown7 hgr7 hloc7
        go_wp2
        go_roundw
        case rel => exact ⟨5 + 1, by omega, by go_num, by rw [← Hd.out]; exact HG.out⟩
        case measure => simp [intOf]
      · have Hd := Lib.hid (wordK_succ xs n 6 (IntKind.u64.wrap n / 256 % 256) (by decide) (by rw [IntKind.wrap_u64]; simp only [w8, byteAt, List.getElem?_cons_zero, List.getElem?_cons_succ, Option.getD_some, Nat.reduceSub, Int.reducePow]; omega))
        go_wp2_with (first | (at_builtin; refine wpList_append_own_at _ rfl _ _ 33 rfl 0 5 i5 (.int .u8 0) 1 1 und33 hi5 hz5 hs5 hb5 rfl (by decide) _ _ _ rfl (Hr.out.alloc _) ⟨wr.heap.size, 0, none⟩ 1 1 [.int .u8 (IntKind.u64.wrap n / 256 % 256)] rfl rfl ?c1 ?c2 ?c3 ?c4 ?c5 ?_))
        case c1 => exact cell_one_new _ _ _
        case c2 => intro u hu; simp at hu; subst hu; rfl
        case c3 => unfold maxLen; omega
        case c4 => omega
        case c5 => exact Nat.zero_le _
        intro v7 w7 hown7 hgr7 _ hloc7
        have HG := Lib.hid (HO.out.trans (Onto.one (x := .int .u8 (IntKind.u64.wrap n / 256 % 256)) (by rw [wordK_length xs n 6 (by decide)]; exact hown7) hgr7 (by simpa using hloc7)))
        clear hown7 hgr7 hloc7
        go_wp2
        go_roundw
        case rel => exact ⟨6 + 1, by omega, by go_num, by rw [← Hd.out]; exact HG.out⟩
        case measure => simp [intOf]
      · have Hd := Lib.hid (wordK_succ xs n 7 (IntKind.u64.wrap n % 256) (by decide) (by rw [IntKind.wrap_u64]; simp only [w8, byteAt, List.getElem?_cons_zero, List.getElem?_cons_succ, Option.getD_some, Nat.reduceSub, Int.reducePow]; omega))
        go_wp2_with (first | (at_builtin; refine wpList_append_own_at _ rfl _ _ 33 rfl 0 5 i5 (.int .u8 0) 1 1 und33 hi5 hz5 hs5 hb5 rfl (by decide) _ _ _ rfl (Hr.out.alloc _) ⟨wr.heap.size, 0, none⟩ 1 1 [.int .u8 (IntKind.u64.wrap n % 256)] rfl rfl ?c1 ?c2 ?c3 ?c4 ?c5 ?_))
        case c1 => exact cell_one_new _ _ _
        case c2 => intro u hu; simp at hu; subst hu; rfl
        case c3 => unfold maxLen; omega
        case c4 => omega
        case c5 => exact Nat.zero_le _
        intro v7 w7 hown7 hgr7 _ hloc7
        have HG := Lib.hid (HO.out.trans (Onto.one (x := .int .u8 (IntKind.u64.wrap n % 256)) (by rw [wordK_length xs n 7 (by decide)]; exact hown7) hgr7 (by simpa using hloc7)))
        clear hown7 hgr7 hloc7
        go_wp2
        go_roundw
        case rel => exact ⟨7 + 1, by omega, by go_num, by rw [← Hd.out]; exact HG.out⟩
        case measure => simp [intOf]
    · obtain rfl : k = 8 := by omega
      have HF := Lib.hid (show Onto w wr 5 v u0 (xs ++ (w8 n).map (Value.int .u8)) from by have := HO.out; unfold wordK at this; rwa [List.take_of_length_le (by rw [w8_length]; omega)] at this)
      clear hkl
      go_wp2
      go_ret
      exact ⟨_, rfl, HF.out⟩
end Go.Proofs.Ytniifefmjdjebaa
namespace Go.Proofs.Ytniifefmjdjebaa
open Go.RowKit
set_option linter.unusedVariables false
set_option linter.unusedSimpArgs false

def nilRow : Value := .slice none 0 0
theorem Onto.fr {w w' : World} {e : TypeId} {v : Value} {xs : List Value} (h : Onto w w' e nilRow v xs) : Fr (fun _ => False) w w' := Fr.of_grown h.2.1 (by simp [nilRow, Value.ownBlock])
theorem Onto.new {w w' : World} {e : TypeId} {v : Value} {xs : List Value} (h : Onto w w' e nilRow v xs) {g : Nat} (hg : v.ownBlock = some g) : w.heap.size ≤ g := by
  rcases h.2.2 g hg with h1 | h1
  · simp [nilRow, Value.ownBlock] at h1
  · exact h1
/-- The bytes of the first i objects, then those of a head and of k slots. -/
def bytesI (l : List Ob) (i : Nat) : List Value := (encs (l.take i)).map (Value.int .u8)
def bytesK (l : List Ob) (i : Nat) (x : Ob) (k : Nat) : List Value := (bytesI l i ++ (w8 x.kind).map (Value.int .u8)) ++ (w8 x.vs.length).map (Value.int .u8) ++ ((x.vs.take k).flatMap w8).map (Value.int .u8)
theorem bytesK_succ (l : List Ob) (i : Nat) (x : Ob) (k : Nat) (h : k < x.vs.length) : bytesK l i x k ++ (w8 (x.vs[k]?.getD 0)).map (Value.int .u8) = bytesK l i x (k + 1) := by
  unfold bytesK
  rw [List.take_succ_eq_append_getElem h, List.flatMap_append, List.map_append, List.getElem?_eq_getElem h]
  simp
theorem bytesK_all (l : List Ob) (i : Nat) (x : Ob) (h : l[i]? = some x) : bytesK l i x x.vs.length = bytesI l (i + 1) := by
  obtain ⟨hl, hx⟩ := List.getElem?_eq_some_iff.1 h
  unfold bytesK bytesI
  rw [List.take_succ_eq_append_getElem hl, encs_append, hx, List.take_length]
  simp [encs, enc]
theorem bytesI_length (l : List Ob) (i : Nat) : (bytesI l i).length ≤ tot l := by
  unfold bytesI; rw [List.length_map, encs_length]; exact tot_take_le l i
theorem bytesK_length (l : List Ob) (i : Nat) (x : Ob) (k : Nat) : (bytesK l i x k).length ≤ tot l + 16 + 8 * x.vs.length := by
  have h1 := bytesI_length l i
  have h2 : ((x.vs.take k).flatMap w8).length ≤ 8 * x.vs.length := by
    rw [flat8_length, List.length_take]; omega
  unfold bytesK
  rw [List.length_append, List.length_append, List.length_append, List.length_map, List.length_map, List.length_map, w8_length, w8_length]
  omega
set_option maxRecDepth 100000 in
set_option maxHeartbeats 4000000 in
theorem refBytes_any (q : Nat) (S : Nat → Prop) (s : AS) (w : World) (h : IsRef w q S s) (hg : s.Good) :
    Calls Try.prog 75 #[.pointer (some ⟨q, 0, none⟩)] w fun e w' => NewRow w w' 5 ((encs s.used).map (Value.int .u8)) e := by
  obtain ⟨vl, va, hl, ha, tl, h1, h2⟩ := h
  have hll := len_le_tot s.used
  have hsm := hg.small
  have H := Lib.hid h1
  have HG := Lib.hid hg; clear h1 h2 hg
  obtain ⟨n, hn⟩ : ∃ n, n = s.used.length := ⟨_, rfl⟩
  have Hn := Lib.hid hn
  rw [← hn] at hll
  clear hn
  obtain ⟨av, cv, hv⟩ := row_form H.out.used.row
  rw [← Hn.out] at hv
  subst hv
  go_enter Try.func75, Try.ntmps75
  go_wp2
  go_loopw [3, 4] (fun v i wr => ∃ k : Nat, k ≤ n ∧ i = .int .i64 k ∧ Onto w wr 5 nilRow v (bytesI s.used k)) (fun _ i _ => (n - intOf i).toNat)
  case atStart => exact ⟨0, by omega, rfl, Onto.refl (World.ownsRow_nil _ _ _ _)⟩
  case round =>
    obtain ⟨i, hk, rfl, ho⟩ := hrel
    have HO := Lib.hid ho; clear ho
    have hi := H.out.keep (T := fun _ => False) HO.out.fr (fun _ _ h => h)
    have c2 := blk_cell hi.top 2
    simp only [List.getElem?_toArray, List.getElem?_cons_succ, List.getElem?_cons_zero] at c2
    by_cases hlt : i < n
    · have hr := hi.used.row
      rw [← Hn.out] at hr
      obtain ⟨g, c, _, e1, _, _, _⟩ := row_addr hr (by omega)
      simp only [Value.slice.injEq, true_and] at e1
      obtain ⟨rfl, rfl⟩ := e1
      have hkl : i < s.used.length := by rw [← Hn.out]; exact hlt
      have hkh : i < hl.length := by rw [hi.used.length]; exact hkl
      obtain ⟨o, ho⟩ : ∃ o, o = hl[i] := ⟨_, rfl⟩
      have ho' : hl[i]? = some o := by rw [List.getElem?_eq_getElem hkh, ho]
      obtain ⟨x, hx⟩ : ∃ x, x = s.used[i] := ⟨_, rfl⟩
      have hx' : s.used[i]? = some x := by rw [List.getElem?_eq_getElem hkl, hx]
      have HI := Lib.hid (And.intro ho' hx')
      have hok := HG.out.used x (List.mem_of_getElem? hx')
      have hvl := hok.2.1
      have Hok := Lib.hid hok
      have hb0 := bytesI_length s.used i
      have hb1 := bytesK_length s.used i x
      obtain ⟨ob, ov⟩ := o
      have hob := hi.used.obs i _ _ ho' hx'
      obtain ⟨avx, cvx, hov⟩ := row_form hob.row
      simp only at hov
      subst hov
      -- what stays readable however the row of bytes grows
      have HR := Lib.hid (show ∀ wz u (ys : List Value), Onto w wz 5 nilRow u ys → wz.cell? ⟨q, 2, none⟩ = some (.slice (some ⟨g, 0, none⟩) n cv) ∧ wz.cell? ⟨g, i, none⟩ = some (.pointer (some ⟨ob, 0, none⟩)) ∧ wz.cell? ⟨ob, 1, none⟩ = some (.int .i64 x.kind) ∧
          wz.cell? ⟨ob, 2, none⟩ = some (.slice avx x.vs.length cvx) ∧ wz.ownsRow 0 2 1 (.slice avx x.vs.length cvx) x.vs.length (x.vs.map (Value.int .i64)) from fun wz u ys hz => by
        have hi := H.out.keep (T := fun _ => False) hz.fr (fun _ _ h => h)
        have hr := hi.used.row
        rw [← Hn.out] at hr
        have hob := hi.used.obs i _ _ HI.out.1 HI.out.2
        exact ⟨blk_cell hi.top 2, row_cell hr (j := i) (u := optr (ob, .slice avx x.vs.length cvx)) (by rw [List.getElem?_map, HI.out.1]; rfl), blk_cell hob.cells 1, blk_cell hob.cells 2, hob.row⟩)
      clear hr hkl hkh hob ho ho' hi hx hx' c2 hok
      obtain ⟨r1, r2, r3, r4, _⟩ := HR.out _ _ _ HO.out
      go_wp2_with fail
      refine (word_any _ x.kind (bytesI s.used i) _ HO.out.1 Hok.out.1 (by omega)).mono ?_
      rintro e w1 ⟨v1, rfl, ho1⟩
      have HO1 := Lib.hid (HO.out.trans ho1)
      clear ho1 r1 r2 r3 r4
      obtain ⟨r1, r2, r3, r4, _⟩ := HR.out _ _ _ HO1.out
      go_wp2_with fail
      refine (word_any _ x.vs.length _ _ HO1.out.1 (by unfold I64; omega) (by rw [List.length_append, List.length_map, w8_length]; omega)).mono ?_
      rintro e w2 ⟨v2, rfl, ho2⟩
      have HO2 := Lib.hid (show Onto w w2 5 nilRow v2 (bytesK s.used i x 0) from by simpa [bytesK] using HO1.out.trans ho2)
      clear ho2 r1 r2 r3 r4
      go_wp2_with fail
      obtain ⟨xn, hxn⟩ : ∃ xn, xn = x.vs.length := ⟨_, rfl⟩
      have Hxn := Lib.hid hxn
      rw [← hxn] at HR hvl hb1 ⊢
      clear hxn
      go_loopw [3, 5] (fun v j wr => ∃ k : Nat, k ≤ xn ∧ j = .int .i64 k ∧ Onto w wr 5 nilRow v (bytesK s.used i x k)) (fun _ j _ => (xn - intOf j).toNat)
      case atStart => exact ⟨0, by omega, rfl, HO2.out⟩
      case round =>
        obtain ⟨k, hkx, rfl, ho⟩ := hrel
        have HK := Lib.hid ho; clear ho
        obtain ⟨r1, r2, r3, r4, r5⟩ := HR.out _ _ _ HK.out
        by_cases hkl : k < xn
        · obtain ⟨gx, cx, _, e1, _, _, _⟩ := row_addr r5 (by omega)
          simp only [Value.slice.injEq, true_and] at e1
          obtain ⟨rfl, rfl⟩ := e1
          have r6 := row_int r5 hkl
          have Hk1 := Lib.hid (bytesK_succ s.used i x k (by rw [← Hxn.out]; exact hkl))
          have hy64 : I64 (x.vs[k]?.getD 0) := by
            have hk' : k < x.vs.length := by rw [← Hxn.out]; exact hkl
            rw [List.getElem?_eq_getElem hk', Option.getD_some]
            exact Hok.out.2.2 _ (List.getElem_mem hk')
          obtain ⟨y, hy⟩ : ∃ y, y = x.vs[k]?.getD 0 := ⟨_, rfl⟩
          rw [← hy] at r6 hy64 Hk1
          have Hy := Lib.hid hy64
          have hbl := hb1 k
          clear hy r3 r5 hy64
          go_wp2_with fail
          refine (word_any _ y _ _ HK.out.1 Hy.out (by omega)).mono ?_
          rintro e w3 ⟨v3, rfl, ho3⟩
          have HO3 := Lib.hid (HK.out.trans ho3)
          rw [Hk1.out] at HO3
          clear ho3 r1 r2 r4 r6
          go_wp2
          go_roundw
          case rel => exact ⟨k + 1, by omega, by go_num, HO3.out⟩
          case measure => simp [intOf]; omega
        · obtain rfl : k = xn := by omega
          have HL := Lib.hid (show Onto w wr 5 nilRow u3 (bytesI s.used (i + 1)) from by
            have h1 := bytesK_all s.used i x HI.out.2
            rw [← Hxn.out] at h1
            rw [← h1]
            exact HK.out)
          clear r3 r5
          go_wp2
          go_roundw
          case rel => exact ⟨i + 1, by omega, by go_num, HL.out⟩
          case measure => simp [intOf]; omega
    · obtain rfl : i = n := by omega
      have Hfin := Lib.hid (show NewRow w wr 5 ((encs s.used).map (Value.int .u8)) (.returned u3) from by
        have h5 := HO.out
        rw [show bytesI s.used i = (encs s.used).map (Value.int .u8) from by rw [Hn.out]; unfold bytesI; rw [List.take_length]] at h5
        exact ⟨_, rfl, h5.1, h5.fr, fun g hg => h5.new hg⟩)
      clear hi
      go_wp2
      go_ret
      exact Hfin.out
end Go.Proofs.Ytniifefmjdjebaa
namespace Go.Proofs.Ytniifefmjdjebaa
open Go.RowKit
set_option linter.unusedVariables false
set_option linter.unusedSimpArgs false

theorem HApart.symm {a b : OH} (h : HApart a b) : HApart b a := ⟨fun e => h.1 e.symm, fun k hb ha => h.2 k ha hb⟩
theorem apart_at {L : List OH} (h : L.Pairwise HApart) {i j : Nat} (hij : i ≠ j) {a b : OH} (ha : L[i]? = some a) (hb : L[j]? = some b) : HApart a b := by
  obtain ⟨h1, rfl⟩ := List.getElem?_eq_some_iff.1 ha
  obtain ⟨h2, rfl⟩ := List.getElem?_eq_some_iff.1 hb
  rw [List.pairwise_iff_getElem] at h
  rcases Nat.lt_or_gt_of_ne hij with hlt | hlt
  · exact h i j h1 h2 hlt
  · exact (h j i h2 h1 hlt).symm
theorem tot_take_set (l : List Ob) (i j : Nat) (x y : Ob) (hx : l[i]? = some x) (hs : y.vs.length = x.vs.length) : tot ((l.set i y).take j) = tot (l.take j) := by
  obtain ⟨hl, hx'⟩ := List.getElem?_eq_some_iff.1 hx
  have hm : (l.set i y).map Ob.size = l.map Ob.size := by
    rw [List.map_set]
    apply List.ext_getElem?
    intro k
    by_cases hk : k = i
    · subst hk
      rw [List.getElem?_set_self (by simpa using hl), List.getElem?_map, hx]
      simp [Ob.size, hs]
    · rw [List.getElem?_set_ne (Ne.symm hk)]
  unfold tot
  rw [List.map_take, hm, ← List.map_take]
theorem adr_set (l : List Ob) (i j : Nat) (x y : Ob) (hx : l[i]? = some x) (hs : y.vs.length = x.vs.length) : adr (l.set i y) j = adr l j := by
  unfold adr; rw [tot_take_set l i j x y hx hs]
theorem tot_set (l : List Ob) (i : Nat) (x y : Ob) (hx : l[i]? = some x) (hs : y.vs.length = x.vs.length) : tot (l.set i y) = tot l := by
  have := tot_take_set l i l.length x y hx hs
  rwa [List.take_length, List.take_of_length_le (by simp)] at this
section
variable {w w' : World} {q : Nat} {vl va : Value} {hl ha : List OH} {tl : Nat → Int} {s : AS}
/-- The blocks of objects, of slots, of rows, and the top's, are of different kinds. -/
theorem IsRef'.ocell (h : IsRef' w q vl va hl ha tl s) {o : OH} (ho : o ∈ hl ++ ha) : ∃ a x t, OCell w o a x t := by
  rcases List.mem_append.1 ho with ho | ho
  · obtain ⟨i, x, _, _, hc⟩ := h.used.at ho; exact ⟨_, _, _, hc⟩
  · obtain ⟨i, x, _, _, hc⟩ := h.ahead.at ho; exact ⟨_, _, _, hc⟩
theorem IsRef'.ob_ne (h : IsRef' w q vl va hl ha tl s) {o : OH} (ho : o ∈ hl ++ ha) : o.1 ≠ q ∧ vl.ownBlock ≠ some o.1 ∧ va.ownBlock ≠ some o.1 ∧ ∀ o' ∈ hl ++ ha, o'.2.ownBlock ≠ some o.1 := by
  obtain ⟨a, x, t, hc⟩ := h.ocell ho
  refine ⟨fun e => ?_, fun e => ?_, fun e => ?_, fun o' ho' e => ?_⟩
  · have := blk_ty (e ▸ hc.cells) h.top; exact absurd this (by decide)
  · obtain ⟨cur, hb⟩ := row_cells h.used.row e; exact absurd (blk_ty hc.cells hb) (by decide)
  · obtain ⟨cur, hb⟩ := row_cells h.ahead.row e; exact absurd (blk_ty hc.cells hb) (by decide)
  · obtain ⟨a', x', t', hc'⟩ := h.ocell ho'
    obtain ⟨cur, hb⟩ := row_cells hc'.row e; exact absurd (blk_ty hc.cells hb) (by decide)
theorem IsRef'.vs_ne (h : IsRef' w q vl va hl ha tl s) {o : OH} (ho : o ∈ hl ++ ha) {g : Nat} (hg : o.2.ownBlock = some g) : g ≠ q ∧ vl.ownBlock ≠ some g ∧ va.ownBlock ≠ some g ∧ ∀ o' ∈ hl ++ ha, o'.1 ≠ g := by
  obtain ⟨a, x, t, hc⟩ := h.ocell ho
  obtain ⟨cur, hb⟩ := row_cells hc.row hg
  refine ⟨fun e => ?_, fun e => ?_, fun e => ?_, fun o' ho' e => ?_⟩
  · have := blk_ty (e ▸ hb) h.top; exact absurd this (by decide)
  · obtain ⟨cur', hb'⟩ := row_cells h.used.row e; exact absurd (blk_ty hb hb') (by decide)
  · obtain ⟨cur', hb'⟩ := row_cells h.ahead.row e; exact absurd (blk_ty hb hb') (by decide)
  · obtain ⟨a', x', t', hc'⟩ := h.ocell ho'
    exact absurd (blk_ty (e ▸ hc'.cells) hb) (by decide)
theorem IsRef'.row_ne (h : IsRef' w q vl va hl ha tl s) : vl.ownBlock ≠ some q ∧ va.ownBlock ≠ some q := by
  refine ⟨fun e => ?_, fun e => ?_⟩
  · obtain ⟨cur', hb'⟩ := row_cells h.used.row e; exact absurd (blk_ty hb' h.top) (by decide)
  · obtain ⟨cur', hb'⟩ := row_cells h.ahead.row e; exact absurd (blk_ty hb' h.top) (by decide)
/-- A slot of an object of the used half is written. -/
theorem IsRef'.store (h : IsRef' w q vl va hl ha tl s) {i j b g cap : Nat} {x : Ob} {v : Int} (ho : hl[i]? = some (b, .slice (some ⟨g, 0, none⟩) x.vs.length cap)) (hx : s.used[i]? = some x) :
    IsRef' (w.setCell ⟨g, j, none⟩ (.int .i64 v)) q vl va hl ha tl { s with used := s.used.set i ⟨x.kind, x.vs.set j v⟩ } ∧ Fr (RBlocks q vl va (hl ++ ha)) w (w.setCell ⟨g, j, none⟩ (.int .i64 v)) := by
  have hmem : (b, Value.slice (some ⟨g, 0, none⟩) x.vs.length cap) ∈ hl ++ ha := List.mem_append_left _ (List.mem_of_getElem? ho)
  have hg : (Value.slice (some ⟨g, 0, none⟩) x.vs.length cap).ownBlock = some g := rfl
  obtain ⟨n1, n2, n3, n4⟩ := h.vs_ne hmem hg
  have hil : i < hl.length := (List.getElem?_eq_some_iff.1 ho).1
  have hiu : i < s.used.length := (List.getElem?_eq_some_iff.1 hx).1
  have hf : Fr (fun k => k = g) w (w.setCell ⟨g, j, none⟩ (.int .i64 v)) := Fr.setCell w _ _ rfl
  have hoc := h.used.obs i _ x ho hx
  refine ⟨⟨?_, ⟨?_, ?_⟩, ?_, h.apart, h.rows, h.moved⟩, hf.mono fun k _ e => .inr (.inr (.inr ⟨_, hmem, .inr (e ▸ hg)⟩))⟩
  · show _ = some (Obj.cells #[_, .int .i64 ((tot (s.used.set i ⟨x.kind, x.vs.set j v⟩) : Nat)), _, _] 107 (0, 0))
    rw [tot_set s.used i x _ hx (by simp)]
    exact hf.heap h.top (fun e => n1 e.symm)
  · show World.ownsRow _ 0 113 1 vl (s.used.set i _).length _
    rw [List.length_set]
    exact hf.row h.used.row (fun k hk e => n2 (e ▸ hk))
  · intro i' o' x' ho' hx'
    show OCell _ o' (adr (s.used.set i ⟨x.kind, x.vs.set j v⟩) i') x' (tl i')
    rw [adr_set s.used i i' x _ hx (by simp)]
    by_cases hii : i' = i
    · subst hii
      rw [List.getElem?_set_self hiu] at hx'
      obtain rfl := Option.some.inj hx'
      rw [ho] at ho'
      obtain rfl := Option.some.inj ho'
      refine ⟨hf.heap hoc.cells (n4 _ hmem), ?_⟩
      have := (hoc.row.stored j (.int .i64 v)).1
      simp only [List.length_set, List.map_set]
      exact this
    · rw [List.getElem?_set_ne (Ne.symm hii)] at hx'
      have hm' : o' ∈ hl ++ ha := List.mem_append_left _ (List.mem_of_getElem? ho')
      refine (h.used.obs i' o' x' ho' hx').keep hf (n4 o' hm') (fun k hk e => ?_)
      have hap := apart_at (List.pairwise_append.1 h.apart).1 (Ne.symm hii) ho ho'
      exact hap.2 g hg (e ▸ hk)
  · refine h.ahead.keep hf (fun k hk e => n3 (e ▸ hk)) (fun o' ho' => ⟨n4 o' (List.mem_append_right _ ho'), fun k hk e => ?_⟩)
    exact ((List.pairwise_append.1 h.apart).2.2 _ (List.mem_of_getElem? ho) o' ho').2 g hg (e ▸ hk)
/-- An object of the half ahead is told where it was copied. -/
theorem IsRef'.told (h : IsRef' w q vl va hl ha tl s) {i b : Nat} {vv : Value} {x : Ob} {t : Int} (ho : ha[i]? = some (b, vv)) (hx : s.ahead[i]? = some x) (ht : 8 ≤ t) :
    IsRef' (w.setCell ⟨b, 3, none⟩ (.int .i64 t)) q vl va hl ha tl { s with moved := fun a => if a = adr s.ahead i then some t else s.moved a } ∧ Fr (RBlocks q vl va (hl ++ ha)) w (w.setCell ⟨b, 3, none⟩ (.int .i64 t)) := by
  have hmem : (b, vv) ∈ hl ++ ha := List.mem_append_right _ (List.mem_of_getElem? ho)
  obtain ⟨n1, n2, n3, n4⟩ := h.ob_ne hmem
  have hf : Fr (fun k => k = b) w (w.setCell ⟨b, 3, none⟩ (.int .i64 t)) := Fr.setCell w _ _ rfl
  have hiu : i < s.ahead.length := (List.getElem?_eq_some_iff.1 hx).1
  have hoc := h.ahead.obs i _ x ho hx
  refine ⟨⟨hf.heap h.top (fun e => n1 e.symm), ?_, ⟨hf.row h.ahead.row (fun k hk e => n3 (e ▸ hk)), ?_⟩, h.apart, h.rows, ?_⟩, hf.mono fun k _ e => .inr (.inr (.inr ⟨_, hmem, .inl e.symm⟩))⟩
  · refine h.used.keep hf (fun k hk e => n2 (e ▸ hk)) (fun o' ho' => ⟨fun e => ?_, fun k hk e => n4 o' (List.mem_append_left _ ho') (e ▸ hk)⟩)
    exact ((List.pairwise_append.1 h.apart).2.2 o' ho' _ (List.mem_of_getElem? ho)).1 e
  · intro i' o' x' ho' hx'
    show OCell _ o' (adr s.ahead i') x' ((if adr s.ahead i' = adr s.ahead i then some t else s.moved (adr s.ahead i')).getD 0)
    by_cases hii : i' = i
    · subst hii
      rw [ho] at ho'
      obtain rfl := Option.some.inj ho'
      rw [hx] at hx'
      obtain rfl := Option.some.inj hx'
      rw [if_pos rfl]
      refine ⟨?_, hf.row hoc.row (fun k hk e => n4 _ hmem (e ▸ hk))⟩
      have := heap_setCell_same w b 3 _ 116 (.int .i64 t) hoc.cells
      rw [this]
      rfl
    · rw [if_neg (fun e => hii (adr_inj s.ahead (List.getElem?_eq_some_iff.1 hx').1 hiu e))]
      refine (h.ahead.obs i' o' x' ho' hx').keep hf (fun e => ?_) (fun k hk e => n4 o' (List.mem_append_right _ (List.mem_of_getElem? ho')) (e ▸ hk))
      exact (apart_at (List.pairwise_append.1 h.apart).2.1 (Ne.symm hii) ho ho').1 e.symm
  · intro a t' ht'
    show 8 ≤ t'
    change (if a = adr s.ahead i then some t else s.moved a) = some t' at ht'
    split at ht'
    · obtain rfl := Option.some.inj ht'; exact ht
    · exact h.moved a t' ht'
/-- An object is made: its block and that of its slots are new. -/
theorem IsRef'.made (h : IsRef' w q vl va hl ha tl s) {vl' vv : Value} {b : Nat} {x : Ob} {t : Int} (hf : Fr (fun k => k = q ∨ vl.ownBlock = some k) w w')
    (htop : w'.heap[q]? = some (.cells #[.int .i64 s.semi, .int .i64 (tot (s.used ++ [x]) : Nat), vl', va] 107 (0, 0)))
    (hrow : w'.ownsRow 0 113 1 vl' (hl.length + 1) (hl.map optr ++ [optr (b, vv)])) (hloc : ∀ k, vl'.ownBlock = some k → vl.ownBlock = some k ∨ w.heap.size ≤ k)
    (hoc : OCell w' (b, vv) (tot s.used + 8) x t) (hb : w.heap.size ≤ b) (hv : ∀ k, vv.ownBlock = some k → w.heap.size ≤ k) :
    IsRef' w' q vl' va (hl ++ [(b, vv)]) ha (fun i => if i = s.used.length then t else tl i) { s with used := s.used ++ [x] } := by
  have hlen := h.used.length
  have hold : ∀ o ∈ hl ++ ha, o.1 < w.heap.size ∧ ∀ k, o.2.ownBlock = some k → k < w.heap.size := fun o ho => by
    obtain ⟨a, x, t, hc⟩ := h.ocell ho
    exact ⟨(Array.getElem?_eq_some_iff.1 hc.cells).1, fun k hk => row_lt hc.row hk⟩
  have hkeep : ∀ o ∈ hl ++ ha, ¬ (o.1 = q ∨ vl.ownBlock = some o.1) ∧ ∀ k, o.2.ownBlock = some k → ¬ (k = q ∨ vl.ownBlock = some k) := fun o ho => by
    obtain ⟨n1, n2, _, _⟩ := h.ob_ne ho
    refine ⟨fun e => e.elim n1 n2, fun k hk e => ?_⟩
    obtain ⟨m1, m2, _, _⟩ := h.vs_ne ho hk
    exact e.elim m1 m2
  have hnew : ∀ o ∈ hl ++ ha, HApart o (b, vv) := fun o ho => by
    obtain ⟨h1, h2⟩ := hold o ho
    exact ⟨fun e => by simp only at e; omega, fun k hk e => by have := hv k e; have := h2 k hk; omega⟩
  refine ⟨htop, ⟨?_, ?_⟩, ?_, ?_, ?_, h.moved⟩
  · rw [List.map_append, List.length_append, ← hlen]
    exact hrow
  · intro i o y hio hiy
    show OCell _ o (adr (s.used ++ [x]) i) y (if i = s.used.length then t else tl i)
    by_cases hi : i < s.used.length
    · rw [if_neg (by omega)]
      rw [List.getElem?_append_left (by omega)] at hio
      rw [List.getElem?_append_left hi] at hiy
      rw [show adr (s.used ++ [x]) i = adr s.used i from by unfold adr; rw [List.take_append_of_le_length (by omega)]]
      have hm := hkeep o (List.mem_append_left _ (List.mem_of_getElem? hio))
      exact (h.used.obs i o y hio hiy).keep hf hm.1 hm.2
    · have hlt : i < (s.used ++ [x]).length := (List.getElem?_eq_some_iff.1 hiy).1
      obtain rfl : i = s.used.length := by simp at hlt; omega
      rw [if_pos rfl]
      rw [List.getElem?_append_right (by omega), ← hlen] at hio
      rw [List.getElem?_append_right (by omega)] at hiy
      simp at hio hiy
      subst hio hiy
      rw [show adr (s.used ++ [x]) s.used.length = tot s.used + 8 from by unfold adr; rw [List.take_left]]
      exact hoc
  · refine h.ahead.keep hf (fun k hk e => ?_) (fun o ho => hkeep o (List.mem_append_right _ ho))
    rcases e with rfl | e
    · exact h.row_ne.2 hk
    · exact h.rows k e hk
  · rw [List.append_assoc]
    obtain ⟨p1, p2, p3⟩ := List.pairwise_append.1 h.apart
    refine List.pairwise_append.2 ⟨p1, List.pairwise_cons.2 ⟨fun o ho => (hnew o (List.mem_append_right _ ho)).symm, p2⟩, fun o ho o' ho' => ?_⟩
    rcases List.mem_cons.1 ho' with rfl | ho'
    · exact hnew o (List.mem_append_left _ ho)
    · exact p3 o ho o' ho'
  · intro k hk e
    rcases hloc k hk with h1 | h1
    · exact h.rows k h1 e
    · have := row_lt h.ahead.row e; omega
end
end Go.Proofs.Ytniifefmjdjebaa
namespace Go.Proofs.Ytniifefmjdjebaa
open Go.RowKit
set_option linter.unusedVariables false
set_option linter.unusedSimpArgs false

def TurnedR (w w' : World) (q : Nat) (S : Nat → Prop) (s' : AS) : Prop := ∃ S', IsRef w' q S' s' ∧ Fr S w w' ∧ ∀ k, S' k → S k ∨ w.heap.size ≤ k
def NewRef (w : World) (n : Int) (e : Ending) (w' : World) : Prop := ∃ q S, e = .returned (.tuple #[.pointer (some ⟨q, 0, none⟩), .int .i64 0]) ∧ IsRef w' q S (AS.new n) ∧ Fr (fun _ => False) w w' ∧ ∀ k, S k → w.heap.size ≤ k
set_option maxHeartbeats 400000 in
theorem refNew_bad (n : Int) (w : World) (h : n < 256 ∨ n > 1048576) : Calls Try.prog 36 #[.int .i64 n] w fun e w' => e = .returned (.tuple #[.pointer none, .int .i64 1]) ∧ w' = w := by
  rcases Classical.em (n < 256) with h0 | h0
  · clear h
    go_enter Try.func36, Try.ntmps36
    go_wp2
    go_ret2
    exact ⟨rfl, rfl⟩
  · have h1 : n > 1048576 := h.elim (fun h => absurd h h0) id
    clear h
    go_enter Try.func36, Try.ntmps36
    go_wp2
    go_ret2
    exact ⟨rfl, rfl⟩
set_option maxRecDepth 100000 in
set_option maxHeartbeats 400000 in
theorem refNew_any (n : Int) (w : World) (h0 : 256 ≤ n) (h1 : n ≤ 1048576) : Calls Try.prog 36 #[.int .i64 n] w (NewRef w n) := by
  have h2 : ¬ n < 256 := by omega
  have h3 : ¬ n > 1048576 := by omega
  obtain ⟨m, rfl⟩ := Int.eq_ofNat_of_zero_le (show 0 ≤ n by omega)
  go_enter Try.func36, Try.ntmps36
  go_wp2
  go_ret2
  refine ⟨w.heap.size, fun k => k = w.heap.size, rfl, ⟨nilRow, nilRow, [], [], fun _ => 0, ⟨?_, ⟨World.ownsRow_nil _ _ _ _, fun i h x hi => by simp at hi⟩, ⟨World.ownsRow_nil _ _ _ _, fun i h x hi => by simp at hi⟩, List.Pairwise.nil, by simp [nilRow, Value.ownBlock], by simp [AS.new]⟩, fun k => by simp [RBlocks, nilRow, Value.ownBlock]⟩, ?_, fun k hk => by omega⟩
  · exact heap_alloc_new w (.cells #[.int .i64 m, .int .i64 0, .slice none 0 0, .slice none 0 0] 107)
  · exact Fr.alloc _ w _
theorem slotE_zero {o : Option Ob} {n : Int} (h : slotE o n = 0) : ∃ x, o = some x ∧ 0 ≤ n ∧ n < x.vs.length := by
  cases o with
  | none => simp [slotE] at h
  | some x =>
    refine ⟨x, rfl, ?_⟩
    by_cases hn : n < 0 ∨ n ≥ x.vs.length
    · simp [slotE, hn] at h
    · omega
set_option maxRecDepth 100000 in
set_option maxHeartbeats 1000000 in
theorem refPut_any (q : Nat) (a n v : Int) (S : Nat → Prop) (s : AS) (w : World) (h : IsRef w q S s) (hg : s.Good) :
    Calls Try.prog 71 #[.pointer (some ⟨q, 0, none⟩), .int .i64 a, .int .i64 n, .int .i64 v] w fun e w' => e = .returned (.int .i64 (slotE (findOb 0 s.used a) n)) ∧ IsRef w' q S (s.put a n v) ∧ Fr S w w' := by
  have H := Lib.hid (And.intro h hg); clear h hg
  by_cases he : slotE (findOb 0 s.used a) n = 0
  · obtain ⟨x, hx, n0, n1⟩ := slotE_zero he
    obtain ⟨i, rfl⟩ := Int.eq_ofNat_of_zero_le n0
    have Hx := Lib.hid (And.intro hx he)
    have hxl := (H.out.2.used x (by
      obtain ⟨l1, l2, hl, _⟩ := findOb_split _ _ _ _ hx
      rw [hl]; simp)).2.1
    clear hx he
    go_enter Try.func71, Try.ntmps71
    go_wp2_with fail
    refine (refGet_any q a i S s _ H.out.1 H.out.2).mono ?_
    rw [Hx.out.2]
    obtain ⟨y, hy⟩ : ∃ y, y = getV (findOb 0 s.used a) i := ⟨_, rfl⟩
    rw [← hy]
    clear hy
    rintro e w1 ⟨rfl, nd, rfl⟩
    have H1 := Lib.hid (H.out.1.drewN nd)
    obtain ⟨vl, va, hl, ha, tl, h1, h2⟩ := H1.out
    have HR := Lib.hid (And.intro h1 h2)
    clear h1 h2
    go_wp2_with fail
    refine (refAt_any q a vl va hl ha tl s _ HR.out.1 H.out.2).mono ?_
    rintro e w1 ⟨u, rfl, hf, rfl⟩
    rcases hf with ⟨j, o, x', hj, hx', hadr, hfd, rfl⟩ | ⟨hfd, rfl⟩
    · rw [Hx.out.1] at hfd
      obtain rfl := Option.some.inj hfd
      obtain ⟨ob, ov⟩ := o
      have hob := HR.out.1.used.obs j _ x hj hx'
      obtain ⟨av, cv, hov⟩ := row_form hob.row
      simp only at hov
      subst hov
      have hc2 := blk_cell hob.cells 2
      simp only [List.getElem?_toArray, List.getElem?_cons_succ, List.getElem?_cons_zero] at hc2
      have hr := hob.row
      simp only at hr hc2
      obtain ⟨g, c, _, e1, _, _, _⟩ := row_addr hr (by omega)
      simp only [Value.slice.injEq, true_and] at e1
      obtain ⟨rfl, rfl⟩ := e1
      have hcell := row_int hr (j := i) (by omega)
      have hfz : ∀ j, (w.drewN nd).frozen? ⟨g, j, none⟩ = false := hr.frozenAt
      obtain ⟨z, hz⟩ : ∃ z, z = x.vs[i]?.getD 0 := ⟨_, rfl⟩
      rw [← hz] at hcell
      have HJ := Lib.hid (And.intro hj (And.intro hx' hadr))
      simp only [optr]
      clear hob hr hz hj hx' hadr hfd
      go_wp2
      go_ret
      have hst := HR.out.1.store (j := i) (v := v) HJ.out.1 HJ.out.2.1
      have hju : j < s.used.length := (List.getElem?_eq_some_iff.1 HJ.out.2.1).1
      have hput : s.put a i v = { s with used := s.used.set j ⟨x.kind, x.vs.set i v⟩ } := by
        unfold AS.put
        rw [Hx.out.2, if_pos rfl]
        have e5 := setOb_get s.used 0 j i v hju
        rw [show ((0 : Nat) : Int) + tot (s.used.take j) + 8 = a from by rw [← HJ.out.2.2]; unfold adr; omega, HJ.out.2.1] at e5
        simp only [Int.toNat_natCast, Option.getD_some] at e5 ⊢
        rw [e5]
      refine ⟨by rw [Hx.out.2]; rfl, ⟨vl, va, hl, ha, tl, by rw [hput]; exact hst.1, HR.out.2⟩, ?_⟩
      exact (Fr.drewN S w nd).trans (hst.2.mono (fun k _ hk => (HR.out.2 k).2 hk)) (fun _ h => h) (fun _ _ h => h)
    · rw [Hx.out.1] at hfd; cases hfd
  · have hb : (slotE (findOb 0 s.used a) n == 0) = false := by simpa using he
    have He := Lib.hid he
    obtain ⟨y, hy⟩ : ∃ y, y = getV (findOb 0 s.used a) n := ⟨_, rfl⟩
    obtain ⟨z, hz⟩ : ∃ z, z = slotE (findOb 0 s.used a) n := ⟨_, rfl⟩
    have Hz := Lib.hid hz
    rw [← hz] at hb
    clear he
    go_enter Try.func71, Try.ntmps71
    go_wp2_with fail
    refine (refGet_any q a n S s _ H.out.1 H.out.2).mono ?_
    rw [← hy, ← hz]
    clear hy hz
    rintro e w1 ⟨rfl, nd, rfl⟩
    go_wp2
    go_ret
    exact ⟨by rw [← Hz.out]; rfl, by unfold AS.put; rw [if_neg He.out]; exact H.out.1.drewN nd, Fr.drewN S w nd⟩
end Go.Proofs.Ytniifefmjdjebaa
namespace Go.Proofs.Ytniifefmjdjebaa
open Go.RowKit
set_option linter.unusedVariables false
set_option linter.unusedSimpArgs false

theorem und105 : Try.prog.underlying 105 = some (.slice 113) := by kernel_rfl
theorem info113 : (Try.prog.info? 113).map (fun i => (i.zero, i.size, i.bytes)) = some (some (.pointer none), 1, 8) := by kernel_rfl
theorem RHalf.zeroed {w : World} {v : Value} {hs : List OH} {l : List Ob} {tt : Nat → Int} (h : RHalf w v hs l tt) (ap : hs.Pairwise HApart) {i : Nat} {o : OH} (ho : hs[i]? = some o) :
    RHalf (w.setCell ⟨o.1, 3, none⟩ (.int .i64 0)) v hs l (fun j => if j = i then 0 else tt j) := by
  have hf : Fr (fun k => k = o.1) w (w.setCell ⟨o.1, 3, none⟩ (.int .i64 0)) := Fr.setCell w _ _ rfl
  obtain ⟨i0, x0, hi0, _, hc0⟩ := h.at (List.mem_of_getElem? ho)
  have hvs : ∀ o' ∈ hs, ∀ k, o'.2.ownBlock = some k → k ≠ o.1 := fun o' ho' k hk e => by
    obtain ⟨_, _, _, _, hc⟩ := h.at ho'
    obtain ⟨cur, hb⟩ := row_cells hc.row hk
    exact absurd (blk_ty hc0.cells (e ▸ hb)) (by decide)
  refine ⟨hf.row h.row (fun k hk e => ?_), fun j o' x' ho' hx' => ?_⟩
  · obtain ⟨cur, hb⟩ := row_cells h.row hk
    exact absurd (blk_ty hc0.cells (e ▸ hb)) (by decide)
  · by_cases hji : j = i
    · subst hji
      rw [ho] at ho'
      obtain rfl := Option.some.inj ho'
      rw [if_pos rfl]
      have hoc := h.obs j _ x' ho hx'
      refine ⟨?_, hf.row hoc.row (fun k hk e => hvs _ (List.mem_of_getElem? ho) k hk e)⟩
      rw [heap_setCell_same w o.1 3 _ 116 (.int .i64 0) hoc.cells]
      rfl
    · rw [if_neg hji]
      exact (h.obs j o' x' ho' hx').keep hf (fun e => (apart_at ap (Ne.symm hji) ho ho').1 e.symm) (fun k hk e => hvs o' (List.mem_of_getElem? ho') k hk e)
set_option maxRecDepth 100000 in
set_option maxHeartbeats 1000000 in
theorem refFlip_any (q : Nat) (S : Nat → Prop) (s : AS) (w : World) (h : IsRef w q S s) (hg : s.Good) :
    Calls Try.prog 72 #[.pointer (some ⟨q, 0, none⟩)] w fun e w' => e = .returned (.tuple #[]) ∧ TurnedR w w' q S ⟨[], s.used, fun _ => none, s.semi⟩ := by
  obtain ⟨vl, va, hl, ha, tl, h1, h2⟩ := h
  have hll := len_le_tot s.used
  have hsm := hg.small
  have H := Lib.hid (And.intro h1 h2)
  clear hg
  obtain ⟨n, hn⟩ : ∃ n, n = s.used.length := ⟨_, rfl⟩
  have Hn := Lib.hid hn
  rw [← hn] at hll
  clear hn
  obtain ⟨av, cv, hv⟩ := row_form H.out.1.used.row
  rw [← Hn.out] at hv
  subst hv
  have c2 := blk_cell h1.top 2
  simp only [List.getElem?_toArray, List.getElem?_cons_succ, List.getElem?_cons_zero] at c2
  have c3 := blk_cell h1.top 3
  simp only [List.getElem?_toArray, List.getElem?_cons_succ, List.getElem?_cons_zero] at c3
  have fz : ∀ j, w.frozen? ⟨q, j, none⟩ = false := fun j => blk_free h1.top j
  clear h1 h2
  go_enter Try.func72, Try.ntmps72
  go_wp2
  have hf0 : Fr S w (w.setCell ⟨q, 3, none⟩ (.slice av n cv)) := Fr.setCell w _ _ ((H.out.2 q).2 (.inl rfl))
  have hst : (w.setCell ⟨q, 3, none⟩ (.slice av n cv)).heap[q]? = some (.cells #[.int .i64 s.semi, .int .i64 (tot s.used : Nat), .slice av n cv, .slice av n cv] 107 (0, 0)) ∧ RHalf (w.setCell ⟨q, 3, none⟩ (.slice av n cv)) (.slice av n cv) hl s.used (fun i => if i < 0 then 0 else tl i) := by
    refine ⟨by rw [heap_setCell_same w q 3 _ 107 _ H.out.1.top]; rfl, ?_⟩
    have hf1 : Fr (fun k => k = q) w (w.setCell ⟨q, 3, none⟩ (.slice av n cv)) := Fr.setCell w _ _ rfl
    have := H.out.1.used.keep hf1 (fun k hk e => H.out.1.row_ne.1 (e ▸ hk)) (fun o ho => ⟨(H.out.1.ob_ne (List.mem_append_left _ ho)).1, fun k hk => (H.out.1.vs_ne (List.mem_append_left _ ho) hk).1⟩)
    simpa using this
  have HS := Lib.hid (And.intro hf0 hst)
  clear hf0 hst
  obtain ⟨w1, hw1⟩ : ∃ w1, w1 = w.setCell ⟨q, 3, none⟩ (.slice av n cv) := ⟨_, rfl⟩
  rw [← hw1] at HS ⊢
  clear hw1 c2 c3 fz
  go_loopw [2] (fun i wr => ∃ k : Nat, k ≤ n ∧ i = .int .i64 k ∧ Fr S w wr ∧ wr.heap[q]? = some (.cells #[.int .i64 s.semi, .int .i64 (tot s.used : Nat), .slice av n cv, .slice av n cv] 107 (0, 0)) ∧ RHalf wr (.slice av n cv) hl s.used (fun i => if i < k then 0 else tl i)) (fun i _ => (n - intOf i).toNat)
  case atStart => exact ⟨0, by omega, rfl, HS.out⟩
  case round =>
    obtain ⟨k, hk, rfl, r1, r2, r3⟩ := hrel
    have HK := Lib.hid (And.intro r1 (And.intro r2 r3))
    have c1 := blk_cell r2 1
    have c2 := blk_cell r2 2
    have c3 := blk_cell r2 3
    simp only [List.getElem?_toArray, List.getElem?_cons_succ, List.getElem?_cons_zero] at c1 c2 c3
    by_cases hlt : k < n
    · have hr := r3.row
      rw [← Hn.out] at hr
      obtain ⟨g, c, _, e1, _, _, _⟩ := row_addr hr (by omega)
      simp only [Value.slice.injEq, true_and] at e1
      obtain ⟨rfl, rfl⟩ := e1
      have hkl : k < s.used.length := by rw [← Hn.out]; exact hlt
      have hkh : k < hl.length := by rw [r3.length]; exact hkl
      obtain ⟨o, ho⟩ : ∃ o, o = hl[k] := ⟨_, rfl⟩
      have ho' : hl[k]? = some o := by rw [List.getElem?_eq_getElem hkh, ho]
      have hc := row_cell hr (j := k) (u := optr o) (by rw [List.getElem?_map, ho']; rfl)
      have hob := r3.obs k o _ ho' (List.getElem?_eq_getElem hkl)
      have hc0 := blk_cell hob.cells 3
      simp only [List.getElem?_toArray, List.getElem?_cons_succ, List.getElem?_cons_zero] at hc0
      have hfz : ∀ j, wr.frozen? ⟨o.1, j, none⟩ = false := fun j => blk_free hob.cells j
      have hne := (H.out.1.ob_ne (List.mem_append_left ha (List.mem_of_getElem? ho'))).1
      have HZ := Lib.hid (And.intro (r3.zeroed (List.pairwise_append.1 H.out.1.apart).1 ho') (And.intro hne (show S o.1 from (H.out.2 _).2 (.inr (.inr (.inr ⟨o, List.mem_append_left _ (List.mem_of_getElem? ho'), .inl rfl⟩))))))
      obtain ⟨ob, ov⟩ := o
      simp only [optr] at hc hc0 hfz HZ
      clear hr hkl hkh hob ho ho' r1 r2 r3 hne c1
      go_wp2
      go_roundw
      case rel =>
        have hf : Fr (fun j => j = ob) wr (wr.setCell ⟨ob, 3, none⟩ (.int .i64 0)) := Fr.setCell wr _ _ rfl
        refine ⟨k + 1, by omega, by go_num, HK.out.1.trans hf (fun _ h => h) (fun i _ e => e ▸ HZ.out.2.2), hf.heap HK.out.2.1 (fun e => HZ.out.2.1 e.symm), ?_⟩
        have h5 := HZ.out.1
        refine ⟨h5.row, fun j o x h1 h2 => ?_⟩
        have h6 := h5.obs j o x h1 h2
        rw [show (if j < k + 1 then (0 : Int) else tl j) = (if j = k then 0 else if j < k then 0 else tl j) from by
          by_cases h7 : j = k
          · subst h7; rw [if_pos (by omega), if_pos rfl]
          · rw [if_neg h7]
            by_cases h8 : j < k
            · rw [if_pos (by omega), if_pos h8]
            · rw [if_neg (by omega), if_neg h8]]
        exact h6
      case measure => simp [intOf]; omega
    · obtain rfl : k = n := by omega
      have hfz : ∀ j, wr.frozen? ⟨q, j, none⟩ = false := fun j => blk_free r2 j
      have HZ := Lib.hid hfz
      clear r1 r2 r3
      go_wp2
      go_end0
      have hf : Fr (fun j => j = q) wr ((wr.setCell ⟨q, 2, none⟩ (.slice none 0 0)).setCell ⟨q, 1, none⟩ (.int .i64 0)) := (Fr.setCell (S := fun j => j = q) wr ⟨q, 2, none⟩ _ rfl).trans (Fr.setCell (S := fun j => j = q) _ ⟨q, 1, none⟩ _ rfl) (fun _ h => h) (fun _ _ h => h)
      have hSq : S q := (H.out.2 q).2 (.inl rfl)
      have hin : ∀ o ∈ hl, o ∈ hl ++ ha := fun o ho => List.mem_append_left _ ho
      refine ⟨rfl, fun j => RBlocks q nilRow (.slice av k cv) ([] ++ hl) j, ⟨nilRow, .slice av k cv, [], hl, fun _ => 0, ⟨?_, ⟨World.ownsRow_nil _ _ _ _, fun i o x hi => by simp at hi⟩, ?_, ?_, by simp [nilRow, Value.ownBlock], by simp⟩, fun _ => Iff.rfl⟩, HK.out.1.trans hf (fun _ h => h) (fun i _ e => e ▸ hSq), fun j hj => .inl ?_⟩
      · have h1 := heap_setCell_same wr q 2 _ 107 (.slice none 0 0) HK.out.2.1
        rw [heap_setCell_same _ q 1 _ 107 (.int .i64 0) h1]
        rfl
      · have h3 := HK.out.2.2.keep hf (fun j hj e => H.out.1.row_ne.1 (e ▸ hj)) (fun o ho => ⟨(H.out.1.ob_ne (hin o ho)).1, fun j hj => (H.out.1.vs_ne (hin o ho) hj).1⟩)
        refine ⟨h3.row, fun i o x hi hx => ?_⟩
        have h4 := h3.obs i o x hi hx
        rw [if_pos (by rw [Hn.out]; exact (List.getElem?_eq_some_iff.1 hx).1)] at h4
        exact h4
      · exact (List.pairwise_append.1 H.out.1.apart).1
      · refine (H.out.2 j).2 ?_
        rcases hj with h1 | h1 | h1 | ⟨o, ho, h1⟩
        · exact .inl h1
        · simp [nilRow, Value.ownBlock] at h1
        · exact .inr (.inl h1)
        · exact .inr (.inr (.inr ⟨o, hin o (by simpa using ho), h1⟩))
/-- The used half has turned, the half ahead stands where it stood. -/
def TurnedM (w w' : World) (q : Nat) (vl va : Value) (hl ha : List OH) (s' : AS) : Prop := ∃ vl' hl' tl', IsRef' w' q vl' va hl' ha tl' s' ∧ Fr (RBlocks q vl va (hl ++ ha)) w w' ∧ ∀ k, RBlocks q vl' va (hl' ++ ha) k → RBlocks q vl va (hl ++ ha) k ∨ w.heap.size ≤ k
set_option maxRecDepth 100000 in
set_option maxHeartbeats 1000000 in
theorem refMake'_any (q : Nat) (kind n : Int) (vl va : Value) (hl ha : List OH) (tl : Nat → Int) (s : AS) (w : World) (h : IsRef' w q vl va hl ha tl s) (hg : s.Good) :
    Calls Try.prog 70 #[.pointer (some ⟨q, 0, none⟩), .int .i64 kind, .int .i64 n] w fun e w' => e = .returned (.tuple #[.int .i64 (s.makeA n), .int .i64 (s.makeE n)]) ∧ TurnedM w w' q vl va hl ha (s.make kind n) := by
  obtain ⟨i2, hi2, hz2, hs2, hb2⟩ := info_parts info2
  obtain ⟨i113, hi113, hz113, hs113, hb113⟩ := info_parts info113
  have H := Lib.hid (And.intro h hg); clear h hg
  have H0 := Lib.hid (show IsRef w q (RBlocks q vl va (hl ++ ha)) s from ⟨vl, va, hl, ha, tl, H.out.1, fun _ => Iff.rfl⟩)
  by_cases n0 : n < 0
  · have He := Lib.hid (show s.makeE n = 1 from if_pos (.inl n0))
    go_enter Try.func70, Try.ntmps70
    go_wp2
    go_ret2
    exact ⟨by unfold AS.makeA; rw [He.out]; rfl, vl, hl, tl, by unfold AS.make; rw [He.out]; exact H.out.1, Fr.refl _ _, fun _ h => .inl h⟩
  · by_cases n1 : n > 65536
    · have He := Lib.hid (show s.makeE n = 1 from if_pos (.inr n1))
      go_enter Try.func70, Try.ntmps70
      go_wp2
      go_ret2
      exact ⟨by unfold AS.makeA; rw [He.out]; rfl, vl, hl, tl, by unfold AS.make; rw [He.out]; exact H.out.1, Fr.refl _ _, fun _ h => .inl h⟩
    · by_cases hr : roomB s n = true
      · have He := Lib.hid (show s.makeE n = 0 from by unfold AS.makeE; rw [if_neg (by omega), if_pos hr])
        have HRm := Lib.hid hr
        go_enter Try.func70, Try.ntmps70
        go_wp2_with fail
        refine (refRoom_any q n _ s _ H0.out H.out.2).mono ?_
        rw [hr]
        rintro e w1 ⟨rfl, nd, hw1⟩
        clear hr
        have h1 : IsRef' w1 q vl va hl ha tl s := by rw [hw1]; exact H.out.1.keep (T := fun _ => False) (Fr.drewN _ w nd) (fun _ _ h => h)
        have HW := Lib.hid (show Fr (RBlocks q vl va (hl ++ ha)) w w1 ∧ w1.heap.size = w.heap.size from by rw [hw1]; exact ⟨Fr.drewN _ w nd, rfl⟩)
        clear hw1
        have HR := Lib.hid (And.intro h1 (show ∀ k, RBlocks q vl va (hl ++ ha) k ↔ RBlocks q vl va (hl ++ ha) k from fun _ => Iff.rfl))
        have c1 := blk_cell h1.top 1
        have c2 := blk_cell h1.top 2
        simp only [List.getElem?_toArray, List.getElem?_cons_succ, List.getElem?_cons_zero] at c1 c2
        have fz : ∀ j, w1.frozen? ⟨q, j, none⟩ = false := fun j => blk_free h1.top j
        have hsm := H.out.2.small
        clear h1
        obtain ⟨m, rfl⟩ := Int.eq_ofNat_of_zero_le (show 0 ≤ n by omega)
        have hmk : ∀ W : World, (Instr.makeSlice 38 (.int .i64 (m : Int)) (.int .i64 (m : Int))).run Try.prog W = .ok (.slice (some ⟨W.heap.size, 0, none⟩) m m) (W.alloc (.cells (madeCells #[.int .i64 0] m) 2)) := fun W => by
          have h5 := run_make (P := Try.prog) W 38 2 i2 (.int .i64 0) und38 hi2 hz2 .i64 .i64 m m (by omega) (Int.le_refl _) (by rw [hb2]; omega) (by omega)
          simp only [Int.toNat_natCast, hs2, Nat.mul_one] at h5
          exact h5
        have c1b : w1.drew.cell? ⟨q, 1, none⟩ = some (.int .i64 (tot s.used : Nat)) := c1
        have c1a : (w1.drew.alloc (.cells (madeCells #[.int .i64 0] m) 2)).cell? ⟨q, 1, none⟩ = some (.int .i64 (tot s.used : Nat)) := (Fr.alloc (fun _ => False) _ _).cell c1 id
        have c1d : (w1.alloc (.cells (madeCells #[.int .i64 0] m) 2)).cell? ⟨q, 1, none⟩ = some (.int .i64 (tot s.used : Nat)) := (Fr.alloc (fun _ => False) _ _).cell c1 id
        have c1e : (w1.alloc (.cells (madeCells #[.int .i64 0] m) 2)).drew.cell? ⟨q, 1, none⟩ = some (.int .i64 (tot s.used : Nat)) := c1d
        go_wp2_with fail
        go_region
        have f12 : Fr (fun _ => False) w1 ((w1.alloc (.cells (madeCells #[.int .i64 0] m) 2)).alloc (.cells #[.int .i64 (tot s.used + 8), .int .i64 kind, .slice (some ⟨w1.heap.size, 0, none⟩) m m, .int .i64 0] 116)).drew :=
          ((Fr.alloc (fun _ => False) w1 _).trans (Fr.alloc (fun _ => False) _ _) (fun _ h => h) (fun _ _ h => h)).trans (Fr.drew (fun _ => False) _) (fun _ h => h) (fun _ _ h => h)
        have hoc : OCell ((w1.alloc (.cells (madeCells #[.int .i64 0] m) 2)).alloc (.cells #[.int .i64 (tot s.used + 8), .int .i64 kind, .slice (some ⟨w1.heap.size, 0, none⟩) m m, .int .i64 0] 116)).drew (w1.heap.size + 1, .slice (some ⟨w1.heap.size, 0, none⟩) m m) (tot s.used + 8) ⟨kind, List.replicate m 0⟩ 0 := by
          constructor
          · have := heap_alloc_new (w1.alloc (.cells (madeCells #[.int .i64 0] m) 2)) (.cells #[.int .i64 (tot s.used + 8), .int .i64 kind, .slice (some ⟨w1.heap.size, 0, none⟩) m m, .int .i64 0] 116)
            rw [show (w1.alloc (.cells (madeCells #[.int .i64 0] m) 2)).heap.size = w1.heap.size + 1 from by simp] at this
            exact this
          · have h5 := World.ownsRow_lit (base := 0) (e := 2) (size := 1) w1 (madeCells #[.int .i64 0] m) m (Nat.zero_le _) (by unfold maxLen; omega) (by rw [size_madeCells, Nat.mul_one])
            rw [toList_madeCells_one] at h5
            have h6 := (Fr.alloc (fun _ => False) (w1.alloc (.cells (madeCells #[.int .i64 0] m) 2)) (.cells #[.int .i64 (tot s.used + 8), .int .i64 kind, .slice (some ⟨w1.heap.size, 0, none⟩) m m, .int .i64 0] 116)).row h5 (fun _ _ h => h)
            simp only [List.length_replicate, List.map_replicate]
            exact h6
        have hsz : ((w1.alloc (.cells (madeCells #[.int .i64 0] m) 2)).alloc (.cells #[.int .i64 (tot s.used + 8), .int .i64 kind, .slice (some ⟨w1.heap.size, 0, none⟩) m m, .int .i64 0] 116)).drew.heap.size = w1.heap.size + 2 := by simp
        obtain ⟨w2, hw2⟩ : ∃ w2, w2 = ((w1.alloc (.cells (madeCells #[.int .i64 0] m) 2)).alloc (.cells #[.int .i64 (tot s.used + 8), .int .i64 kind, .slice (some ⟨w1.heap.size, 0, none⟩) m m, .int .i64 0] 116)).drew := ⟨_, rfl⟩
        rw [← hw2] at f12 hoc hsz ⊢
        clear hw2 c1 c2 c1a c1b c1d c1e fz hmk
        have h2 := HR.out.1.keep f12 (fun _ _ h => h)
        have c1 := blk_cell h2.top 1
        have c2 := blk_cell h2.top 2
        simp only [List.getElem?_toArray, List.getElem?_cons_succ, List.getElem?_cons_zero] at c1 c2
        have hlen : hl.length = s.used.length := h2.used.length
        have hll := len_le_tot s.used
        have HV := Lib.hid (And.intro f12 (And.intro hoc (And.intro hsz (And.intro h2 hlen))))
        have hr := h2.used.row
        rw [← hlen] at hr hll
        have Hr := Lib.hid hr
        clear f12 hoc hsz h2 hlen hr
        obtain ⟨hn, hhn⟩ : ∃ hn, hn = hl.length := ⟨_, rfl⟩
        have Hhn := Lib.hid hhn
        rw [← hhn] at Hr hll
        obtain ⟨b, hb⟩ : ∃ b, b = w1.heap.size + 1 := ⟨_, rfl⟩
        have Hb := Lib.hid hb
        rw [← hb]
        clear hhn hb
        go_wp2_with (first | (at_builtin; refine wpList_append_own_at _ rfl _ _ 105 rfl 0 113 i113 (.pointer none) 1 8 und105 hi113 hz113 hs113 hb113 rfl (by decide) _ _ _ rfl (Hr.out.alloc _) ⟨w2.heap.size, 0, none⟩ 1 1 [.pointer (some ⟨b, 0, none⟩)] rfl rfl ?c1 ?c2 ?c3 ?c4 ?c5 ?_))
        case c1 => exact cell_one_new _ _ _
        case c2 => intro u hu; simp at hu; subst hu; rfl
        case c3 => unfold maxLen; omega
        case c4 => omega
        case c5 => exact Nat.zero_le _
        intro v7 w7 hown7 hgr7 _ hloc7
        obtain ⟨a7, k7, rfl⟩ := row_form hown7
        have hf7 : Fr (fun k => vl.ownBlock = some k) w2 w7 := Fr.of_grown (grown_trans (World.grownBy_alloc w2 _ _) hgr7) (fun k hk => hk)
        have hqv := HV.out.2.2.2.1.row_ne.1
        have htop7 := hf7.heap HV.out.2.2.2.1.top (fun e => hqv e)
        have c1' := blk_cell htop7 1
        have c2' := blk_cell htop7 2
        simp only [List.getElem?_toArray, List.getElem?_cons_succ, List.getElem?_cons_zero] at c1' c2'
        have fz' : ∀ j, w7.frozen? ⟨q, j, none⟩ = false := fun j => blk_free htop7 j
        have hob7 := hf7.heap HV.out.2.1.cells (fun e => by
          have := row_lt HR.out.1.used.row e
          omega)
        rw [← Hb.out] at hob7
        have cb := blk_cell hob7 0
        simp only [List.getElem?_toArray, List.getElem?_cons_succ, List.getElem?_cons_zero] at cb
        have hbq : b ≠ q := by
          have := (Array.getElem?_eq_some_iff.1 HR.out.1.top).1
          rw [Hb.out]; omega
        have HX := Lib.hid (And.intro hown7 (And.intro hloc7 (And.intro hf7 (And.intro htop7 hob7))))
        clear hown7 hgr7 hloc7 hf7 hqv htop7 hob7 c1 c2
        go_wp2
        go_ret2
        obtain ⟨hown7, hloc7, hf7, htop7, hob7⟩ := HX.out
        obtain ⟨f12, hoc, hsz, h2, hlen⟩ := HV.out
        have hq1 := (Array.getElem?_eq_some_iff.1 HR.out.1.top).1
        have hvlt : ∀ k, vl.ownBlock = some k → k < w1.heap.size := fun k hk => row_lt HR.out.1.used.row hk
        obtain ⟨nu, hnu⟩ : ∃ nu, nu = (tot (s.used ++ [⟨kind, List.replicate m 0⟩] : List Ob)) := ⟨_, rfl⟩
        rw [show (tot s.used : Int) + 16 + 8 * m = (nu : Int) from by rw [hnu, tot_append]; simp [tot, Ob.size]; omega]
        have hf8 : Fr (fun j => j = q) w7 ((w7.setCell ⟨q, 2, none⟩ (.slice a7 (hn + 1) k7)).setCell ⟨q, 1, none⟩ (.int .i64 nu)) :=
          (Fr.setCell (S := fun j => j = q) w7 ⟨q, 2, none⟩ _ rfl).trans (Fr.setCell (S := fun j => j = q) _ ⟨q, 1, none⟩ _ rfl) (fun _ h => h) (fun _ _ h => h)
        have htop8 : ((w7.setCell ⟨q, 2, none⟩ (.slice a7 (hn + 1) k7)).setCell ⟨q, 1, none⟩ (.int .i64 nu)).heap[q]? = some (.cells #[.int .i64 s.semi, .int .i64 nu, .slice a7 (hn + 1) k7, va] 107 (0, 0)) := by
          have h1 := heap_setCell_same w7 q 2 _ 107 (.slice a7 (hn + 1) k7) htop7
          rw [heap_setCell_same _ q 1 _ 107 (.int .i64 nu) h1]
          rfl
        obtain ⟨w8, hw8⟩ : ∃ w8, w8 = (w7.setCell ⟨q, 2, none⟩ (.slice a7 (hn + 1) k7)).setCell ⟨q, 1, none⟩ (.int .i64 nu) := ⟨_, rfl⟩
        rw [← hw8] at hf8 htop8 ⊢
        have hloc8 : ∀ k, (Value.slice a7 (hn + 1) k7).ownBlock = some k → vl.ownBlock = some k ∨ w1.heap.size ≤ k := fun k hk => by
          rcases hloc7 with h4 | h4
          · exact .inl (h4 ▸ hk)
          · rw [h4] at hk; simp at hk; right; omega
        have hf18 : Fr (fun k => k = q ∨ vl.ownBlock = some k) w1 w8 :=
          (f12.trans (U := fun k => k = q ∨ vl.ownBlock = some k) hf7 (fun _ h => h.elim) (fun _ _ h => .inr h)).trans hf8 (fun _ h => h) (fun _ _ h => .inl h)
        have hf28 : Fr (fun k => k = q ∨ vl.ownBlock = some k) w2 w8 := hf7.trans hf8 (fun _ h => .inr h) (fun _ _ h => .inl h)
        have hrow8 : w8.ownsRow 0 113 1 (.slice a7 (hn + 1) k7) (hl.length + 1) (hl.map optr ++ [optr (b, .slice (some ⟨w1.heap.size, 0, none⟩) m m)]) := by
          rw [← Hhn.out]
          exact hf8.row hown7 (fun k hk e => by
            rcases hloc8 k hk with h1 | h1
            · exact h2.row_ne.1 (e ▸ h1)
            · omega)
        have hoc8 : OCell w8 (b, .slice (some ⟨w1.heap.size, 0, none⟩) m m) (tot s.used + 8) ⟨kind, List.replicate m 0⟩ 0 := by
          rw [Hb.out]
          refine hoc.keep hf28 (fun e => ?_) (fun k hk e => ?_)
          · rcases e with e | e
            · simp only at e; omega
            · have := hvlt _ e; simp only at this; omega
          · simp [Value.ownBlock] at hk
            rcases e with e | e
            · omega
            · have := hvlt _ e; omega
        have hm := HR.out.1.made (t := 0) hf18 (by rw [← hnu]; exact htop8) hrow8 hloc8 hoc8 (by rw [Hb.out]; omega) (fun k hk => by simp [Value.ownBlock] at hk; omega)
        refine ⟨by unfold AS.makeA; rw [He.out]; rfl, _, _, _, by unfold AS.make; rw [He.out, if_pos rfl]; simpa using hm, ?_, ?_⟩
        · exact HW.out.1.trans hf18 (fun _ h => h) (fun i _ e => id (e.elim .inl (fun e => .inr (.inl e))))
        · rintro k (e | e | e | ⟨o, ho, e⟩)
          · exact .inl (id (.inl e))
          · rcases hloc8 k e with h1 | h1
            · exact .inl (id (.inr (.inl h1)))
            · right; have := HW.out.2; omega
          · exact .inl (id (.inr (.inr (.inl e))))
          · have hsz1 := HW.out.2
            rcases List.mem_append.1 ho with ho | ho
            · rcases List.mem_append.1 ho with ho | ho
              · exact .inl (id (.inr (.inr (.inr ⟨o, List.mem_append_left _ ho, e⟩))))
              · simp only [List.mem_singleton] at ho
                subst ho
                right
                rcases e with e | e
                · simp only at e; have := Hb.out; omega
                · simp [Value.ownBlock] at e; omega
            · exact .inl (id (.inr (.inr (.inr ⟨o, List.mem_append_right _ ho, e⟩))))
      · have He := Lib.hid (show s.makeE n = 7 from by unfold AS.makeE; rw [if_neg (by omega), if_neg hr])
        have hr' : roomB s n = false := by simpa using hr
        clear hr
        go_enter Try.func70, Try.ntmps70
        go_wp2_with fail
        refine (refRoom_any q n _ s _ H0.out H.out.2).mono ?_
        rw [hr']
        rintro e w1 ⟨rfl, nd, rfl⟩
        clear hr'
        go_wp2
        go_ret2
        exact ⟨by unfold AS.makeA; rw [He.out]; rfl, vl, hl, tl, by unfold AS.make; rw [He.out]; exact H.out.1.keep (T := fun _ => False) (Fr.drewN _ w nd) (fun _ _ h => h), Fr.drewN _ w nd, fun _ h => .inl h⟩
theorem refMake_any (q : Nat) (kind n : Int) (S : Nat → Prop) (s : AS) (w : World) (h : IsRef w q S s) (hg : s.Good) :
    Calls Try.prog 70 #[.pointer (some ⟨q, 0, none⟩), .int .i64 kind, .int .i64 n] w fun e w' => e = .returned (.tuple #[.int .i64 (s.makeA n), .int .i64 (s.makeE n)]) ∧ TurnedR w w' q S (s.make kind n) := by
  obtain ⟨vl, va, hl, ha, tl, h1, h2⟩ := h
  refine (refMake'_any q kind n vl va hl ha tl s w h1 hg).mono ?_
  rintro e w' ⟨rfl, vl', hl', tl', h3, h4, h5⟩
  exact ⟨rfl, _, ⟨vl', va, hl', ha, tl', h3, fun _ => Iff.rfl⟩, h4.mono (fun k _ hk => (h2 k).2 hk), fun k hk => (h5 k hk).imp (h2 k).2 id⟩
end Go.Proofs.Ytniifefmjdjebaa
namespace Go.Proofs.Ytniifefmjdjebaa
open Go.RowKit
set_option linter.unusedVariables false
set_option linter.unusedSimpArgs false

theorem makeE_ok {s : AS} {n : Int} (h0 : 0 ≤ n) (h1 : n ≤ 65536) : s.makeE n = if roomB s n then 0 else 7 := by
  unfold AS.makeE; rw [if_neg (by omega)]
theorem AS.Good.make {s : AS} (h : s.Good) (kind n : Int) (hk : I64 kind) : (s.make kind n).Good := by
  unfold AS.make
  by_cases he : s.makeE n = 0
  · rw [if_pos he]
    have hb : 0 ≤ n ∧ n ≤ 65536 ∧ 16 + 8 * n ≤ s.semi - tot s.used := by
      unfold AS.makeE at he
      by_cases h1 : n < 0 ∨ n > 65536
      · rw [if_pos h1] at he; omega
      · rw [if_neg h1] at he
        by_cases h2 : roomB s n = true
        · exact of_decide_eq_true h2
        · rw [if_neg h2] at he; omega
    refine ⟨h.lo, h.hi, ?_, h.before, ?_, h.ahead⟩
    · show tot (s.used ++ [_]) ≤ s.semi
      rw [tot_append, show tot [(⟨kind, List.replicate n.toNat 0⟩ : Ob)] = 16 + 8 * n.toNat from by simp [tot, Ob.size]]
      have := h.fits
      omega
    · intro x hx
      rcases List.mem_append.1 hx with hx | hx
      · exact h.used x hx
      · simp only [List.mem_singleton] at hx
        subst hx
        refine ⟨hk, by simp; omega, fun v hv => ?_⟩
        obtain ⟨_, rfl⟩ := List.mem_replicate.1 hv
        unfold I64; omega
  · rw [if_neg he]; exact h
/-- The slots when k of them have been copied. -/
def slotsK (vs : List Int) (k : Nat) : List Int := vs.take k ++ List.replicate (vs.length - k) 0
theorem slotsK_zero (vs : List Int) : slotsK vs 0 = List.replicate vs.length 0 := by simp [slotsK]
theorem slotsK_all (vs : List Int) : slotsK vs vs.length = vs := by simp [slotsK]
theorem slotsK_length (vs : List Int) (k : Nat) (h : k ≤ vs.length) : (slotsK vs k).length = vs.length := by simp [slotsK]; omega
theorem slotsK_succ (vs : List Int) (k : Nat) (h : k < vs.length) : (slotsK vs k).set k (vs[k]?.getD 0) = slotsK vs (k + 1) := by
  unfold slotsK
  have h1 : (vs.take k).length = k := by simp; omega
  rw [List.set_append, if_neg (by omega), h1, Nat.sub_self, show vs.length - k = (vs.length - (k + 1)) + 1 from by omega, List.replicate_succ, List.set_cons_zero, List.take_succ_eq_append_getElem h, List.getElem?_eq_getElem h, List.append_assoc]
  rfl
set_option maxRecDepth 100000 in
set_option maxHeartbeats 2000000 in
theorem refCopy_any (q : Nat) (a : Int) (S : Nat → Prop) (s : AS) (w : World) (h : IsRef w q S s) (hg : s.Good) :
    Calls Try.prog 73 #[.pointer (some ⟨q, 0, none⟩), .int .i64 a] w fun e w' => e = .returned (.tuple #[.int .i64 (s.copyA a), .int .i64 (s.copyE a)]) ∧ TurnedR w w' q S (s.copy a) := by
  obtain ⟨vl, va, hl, ha, tl, h1, h2⟩ := h
  have H := Lib.hid (And.intro h1 (And.intro h2 hg))
  have c3 := blk_cell h1.top 3
  simp only [List.getElem?_toArray, List.getElem?_cons_succ, List.getElem?_cons_zero] at c3
  clear h1 h2 hg
  go_enter Try.func73, Try.ntmps73
  go_wp2_with fail
  refine (find_any va ha s.ahead _ a _ H.out.1.ahead H.out.2.2.before).mono ?_
  rintro e w1 ⟨u, rfl, hf, rfl⟩
  rcases hf with ⟨j, o, x, hj, hx, hadr, hfd, rfl⟩ | ⟨hfd, rfl⟩
  · have hob := H.out.1.ahead.obs j o x hj hx
    have hok := H.out.2.2.ahead x (List.mem_of_getElem? hx)
    rw [hadr] at hob
    have hd1 := blk_cell hob.cells 1
    have hd2 := blk_cell hob.cells 2
    have hd3 := blk_cell hob.cells 3
    simp only [List.getElem?_toArray, List.getElem?_cons_succ, List.getElem?_cons_zero] at hd1 hd2 hd3
    have hr := hob.row
    have hvl := hok.2.1
    obtain ⟨ob, ov⟩ := o
    simp only [optr] at hd1 hd2 hd3 hr ⊢
    obtain ⟨av, cv, rfl⟩ := row_form hr
    have HX := Lib.hid (And.intro hj (And.intro hx (And.intro hadr (And.intro hfd hok))))
    cases hm : s.moved a with
    | some t =>
      have ht := H.out.1.moved a t hm
      rw [hm, Option.getD_some] at hd3
      have hne : (t != 0) = true := by simp; omega
      have HM := Lib.hid hm
      clear hob hok hj hx hadr hfd hm c3 hr
      go_wp2
      go_ret2
      refine ⟨by unfold AS.copyA AS.copyE; rw [HX.out.2.2.2.1, HM.out]; rfl, S, ?_, Fr.refl _ _, fun _ h => .inl h⟩
      unfold AS.copy
      rw [HX.out.2.2.2.1, HM.out]
      exact ⟨vl, va, hl, ha, tl, H.out.1, H.out.2.1⟩
    | none =>
      rw [hm, Option.getD_none] at hd3
      have HM := Lib.hid hm
      have hmk := makeE_ok (s := s) (n := x.vs.length) (by omega) (by omega)
      have HMk := Lib.hid hmk
      obtain ⟨xn, hxn⟩ : ∃ xn, xn = x.vs.length := ⟨_, rfl⟩
      have Hxn := Lib.hid hxn
      rw [← hxn] at hd2 hr hvl HMk
      have Hr := Lib.hid hr
      clear hob hok hj hx hadr hfd hm c3 hr hmk hxn
      go_wp2_with fail
      refine wp_region_mid 10 _ _ rfl (by kernel_rfl) (by kernel_rfl) ?_
      simp only [List.take_succ_cons, List.take_zero]
      repeat still_step
      refine wpStill_nil ?_
      change wpList _ _ _ _ _ (w1.drewN 1)
      go_wp2_with fail
      refine (refMake'_any q x.kind xn vl va hl ha tl s _ (H.out.1.keep (T := fun _ => False) (Fr.drewN _ w1 1) (fun _ _ h => h)) H.out.2.2).mono ?_
      rw [HMk.out]
      by_cases hroom : roomB s xn = true
      · have HRm := Lib.hid hroom
        rw [if_pos hroom, show s.makeA xn = tot s.used + 8 from by unfold AS.makeA; rw [HMk.out, if_pos hroom, if_pos rfl], show s.make x.kind xn = { s with used := s.used ++ [⟨x.kind, List.replicate xn 0⟩] } from by unfold AS.make; rw [HMk.out, if_pos hroom, if_pos rfl]; rfl]
        have hgm := H.out.2.2.make x.kind xn HX.out.2.2.2.2.1
        rw [show s.make x.kind xn = { s with used := s.used ++ [⟨x.kind, List.replicate xn 0⟩] } from by unfold AS.make; rw [HMk.out, if_pos hroom, if_pos rfl]; rfl] at hgm
        rintro e w2 ⟨rfl, vl', hl', tl', i1, i2, i3⟩
        have HI := Lib.hid (And.intro i1 (And.intro i2 (And.intro i3 hgm)))
        clear i1 i2 i3 hgm hd1 hd2 hd3 hroom
        go_wp2_with fail
        change wpStill _ _ _ _ _ _
        repeat still_step
        refine wpStill_nil ?_
        go_wp2_with fail
        refine (refAt_any q _ vl' va hl' ha tl' _ _ HI.out.1 HI.out.2.2.2).mono ?_
        rintro e w3 ⟨u, rfl, hf, rfl⟩
        have hfa : findOb 0 (s.used ++ [(⟨x.kind, List.replicate xn 0⟩ : Ob)]) ((tot s.used : Int) + 8) = some ⟨x.kind, List.replicate xn 0⟩ := by rw [findOb_append, if_pos (by omega)]
        rcases hf with ⟨j', o', x', hj', hx', hadr', hfd', rfl⟩ | ⟨hfd', rfl⟩
        · simp only at hfd' hx' hadr' hj'
          rw [hfa] at hfd'
          obtain rfl := Option.some.inj hfd'
          have hjl : j' = s.used.length := by
            have hlt : j' < (s.used ++ [(⟨x.kind, List.replicate xn 0⟩ : Ob)]).length := (List.getElem?_eq_some_iff.1 hx').1
            refine adr_inj (s.used ++ [⟨x.kind, List.replicate xn 0⟩]) hlt (by simp) ?_
            rw [hadr']
            unfold adr; rw [List.take_left]
          subst hjl
          obtain ⟨ob', ov'⟩ := o'
          simp only [optr]
          have hrr := (HI.out.1.used.obs _ _ _ hj' hx').row
          simp only [List.length_replicate] at hrr
          obtain ⟨av', cv', rfl⟩ := row_form hrr
          have HJ := Lib.hid hj'
          clear hfa hfd' hx' hadr' hj' hrr
          go_wp2_with fail
          go_loopw [10] (fun i wr => ∃ k : Nat, k ≤ xn ∧ i = .int .i64 k ∧ IsRef' wr q vl' va hl' ha tl' { s with used := s.used ++ [⟨x.kind, slotsK x.vs k⟩] } ∧ Fr (RBlocks q vl' va (hl' ++ ha)) w3 wr) (fun i _ => (xn - intOf i).toNat)
          case atStart =>
            refine ⟨0, by omega, rfl, ?_, Fr.refl _ _⟩
            rw [slotsK_zero, ← Hxn.out]
            exact HI.out.1
          case round =>
            obtain ⟨k, hk, rfl, r1, r2⟩ := hrel
            have HK := Lib.hid (And.intro r1 r2)
            have hob := r1.ahead.obs j _ _ HX.out.1 HX.out.2.1
            have hd2 := blk_cell hob.cells 2
            have hd3 := blk_cell hob.cells 3
            have hfo : ∀ j, wr.frozen? ⟨ob, j, none⟩ = false := fun j => blk_free hob.cells j
            simp only [List.getElem?_toArray, List.getElem?_cons_succ, List.getElem?_cons_zero] at hd2 hd3
            have hro := hob.row
            have hxk : (s.used ++ [(⟨x.kind, slotsK x.vs k⟩ : Ob)])[s.used.length]? = some ⟨x.kind, slotsK x.vs k⟩ := by rw [List.getElem?_append_right (by omega), Nat.sub_self]; rfl
            have hnb := r1.used.obs _ _ _ HJ.out hxk
            have hn2 := blk_cell hnb.cells 2
            simp only [List.getElem?_toArray, List.getElem?_cons_succ, List.getElem?_cons_zero] at hn2
            have hrn := hnb.row
            simp only at hro hrn
            rw [← Hxn.out] at hro hd2
            rw [slotsK_length x.vs k (by rw [← Hxn.out]; exact hk), ← Hxn.out] at hrn
            by_cases hlt : k < xn
            · obtain ⟨g1, c1, _, e1, _, _, _⟩ := row_addr hro (by omega)
              simp only [Value.slice.injEq, true_and] at e1
              obtain ⟨rfl, rfl⟩ := e1
              obtain ⟨g2, c2, _, e2, _, _, _⟩ := row_addr hrn (by omega)
              simp only [Value.slice.injEq, true_and] at e2
              obtain ⟨rfl, rfl⟩ := e2
              have hcx := row_int hro hlt
              have hcn := row_int hrn hlt
              have hfz : ∀ j, wr.frozen? ⟨g2, j, none⟩ = false := hrn.frozenAt
              have hst := r1.store (j := k) (v := x.vs[k]?.getD 0) (x := ⟨x.kind, slotsK x.vs k⟩) (cap := cv') (b := ob') (g := g2) (i := s.used.length) (by rw [show (⟨x.kind, slotsK x.vs k⟩ : Ob).vs.length = xn from by show (slotsK x.vs k).length = xn; rw [slotsK_length x.vs k (by rw [← Hxn.out]; exact hk), Hxn.out]]; exact HJ.out) hxk
              simp only [slotsK_succ x.vs k (by rw [← Hxn.out]; exact hlt)] at hst
              rw [show (s.used ++ [(⟨x.kind, slotsK x.vs k⟩ : Ob)]).set s.used.length ⟨x.kind, slotsK x.vs (k + 1)⟩ = s.used ++ [⟨x.kind, slotsK x.vs (k + 1)⟩] from by rw [List.set_append, if_neg (by omega), Nat.sub_self]; rfl] at hst
              obtain ⟨y, hy⟩ : ∃ y, y = x.vs[k]?.getD 0 := ⟨_, rfl⟩
              rw [← hy] at hcx hst
              obtain ⟨z, hz⟩ : ∃ z, z = (slotsK x.vs k)[k]?.getD 0 := ⟨_, rfl⟩
              rw [← hz] at hcn
              have HS := Lib.hid hst
              clear hob hnb hro hrn hst hy hz r1 r2 hd3 hxk
              go_wp2_with fail
              go_still_tail 13, (by kernel_rfl)
              change wpList _ _ _ _ _ (wr.drewN 1)
              go_wp2
              go_roundw
              case rel =>
                refine ⟨k + 1, by omega, by go_num, ?_, ?_⟩
                · exact HS.out.1.keep (T := fun _ => False) (Fr.drewN _ _ 1) (fun _ _ h => h)
                · exact (HK.out.2.trans HS.out.2 (fun _ h => h) (fun _ _ h => h)).trans (Fr.drewN _ _ 1) (fun _ h => h) (fun _ _ h => h)
              case measure => simp [intOf]; omega
            · obtain rfl : k = xn := by omega
              have hto := r1.told (i := j) (b := ob) (t := (tot s.used : Int) + 8) HX.out.1 HX.out.2.1 (by omega)
              have HT := Lib.hid hto
              clear hob hnb hro hrn r1 r2 hn2 hxk hto
              go_wp2
              go_ret2
              have e1 : s.copyA a = tot s.used + 8 := by unfold AS.copyA; rw [HX.out.2.2.2.1, HM.out]; simp only; rw [← Hxn.out, HRm.out]; rfl
              have e2 : s.copyE a = 0 := by unfold AS.copyE; rw [HX.out.2.2.2.1, HM.out]; simp only; rw [← Hxn.out, HRm.out]; rfl
              have e3 : s.copy a = { s with used := s.used ++ [x], moved := fun k => if k = a then some ((tot s.used : Int) + 8) else s.moved k } := by unfold AS.copy; rw [HX.out.2.2.2.1, HM.out]; simp only; rw [← Hxn.out, HRm.out]; rfl
              rw [e1, e2, e3]
              have h5 := HT.out.1
              simp only [Hxn.out, slotsK_all] at h5
              rw [HX.out.2.2.1] at h5
              have hsub := HI.out.2.2.1
              have hfr : Fr S w1 w3 := (Fr.drewN S w1 1).trans (HI.out.2.1.mono (fun k _ hk => (H.out.2.1 k).2 hk)) (fun _ h => h) (fun _ _ h => h)
              have hnb' : ∀ k, RBlocks q vl' va (hl' ++ ha) k → S k ∨ w1.heap.size ≤ k := fun k hk => (hsub k hk).imp (H.out.2.1 k).2 id
              refine ⟨rfl, _, ⟨vl', va, hl', ha, tl', h5, fun _ => Iff.rfl⟩, ?_, hnb'⟩
              refine hfr.trans (HK.out.2.trans HT.out.2 (fun _ h => h) (fun _ _ h => h)) (fun _ h => h) (fun i hi e => ?_)
              rcases hnb' i e with h | h
              · exact h
              · omega
        · simp only at hfd'
          rw [hfa] at hfd'; cases hfd'
      · have hroom' : roomB s xn = false := by simpa using hroom
        rw [if_neg hroom, show s.makeA xn = 0 from by unfold AS.makeA; rw [HMk.out, if_neg hroom]; rfl, show s.make x.kind xn = s from by unfold AS.make; rw [HMk.out, if_neg hroom]; rfl]
        rintro e w2 ⟨rfl, vl', hl', tl', i1, i2, i3⟩
        have HI := Lib.hid (And.intro i1 (And.intro i2 i3))
        have HRm := Lib.hid hroom'
        clear i1 i2 i3 hroom hroom' hd1 hd2 hd3
        go_wp2_with fail
        change wpStill _ _ _ _ _ _
        repeat still_step
        refine wpStill_nil ?_
        go_wp2
        go_ret2
        have e1 : s.copyA a = 0 := by unfold AS.copyA; rw [HX.out.2.2.2.1, HM.out]; simp only; rw [← Hxn.out, HRm.out]; rfl
        have e2 : s.copyE a = 7 := by unfold AS.copyE; rw [HX.out.2.2.2.1, HM.out]; simp only; rw [← Hxn.out, HRm.out]; rfl
        have e3 : s.copy a = s := by unfold AS.copy; rw [HX.out.2.2.2.1, HM.out]; simp only; rw [← Hxn.out, HRm.out]; rfl
        rw [e1, e2, e3]
        exact ⟨rfl, _, ⟨vl', va, hl', ha, tl', HI.out.1, fun _ => Iff.rfl⟩, (Fr.drewN S w1 1).trans (HI.out.2.1.mono (fun k _ hk => (H.out.2.1 k).2 hk)) (fun _ h => h) (fun _ _ h => h), fun k hk => (HI.out.2.2 k hk).imp (H.out.2.1 k).2 id⟩
  · have Hfd := Lib.hid hfd
    clear hfd c3
    go_wp2
    go_ret2
    refine ⟨by unfold AS.copyA AS.copyE; rw [Hfd.out]; rfl, S, ?_, Fr.refl _ _, fun _ h => .inl h⟩
    unfold AS.copy
    rw [Hfd.out]
    exact ⟨vl, va, hl, ha, tl, H.out.1, H.out.2.1⟩
end Go.Proofs.Ytniifefmjdjebaa
namespace Go.Proofs.Ytniifefmjdjebaa
open Go.RowKit
set_option linter.unusedVariables false
set_option linter.unusedSimpArgs false

structure Two (w0 w : World) (p : Nat) (S : Nat → Prop) (s : AS) (q : Nat) (R : Nat → Prop) (t : AS) : Prop where
  a : IsArena w p S s
  r : IsRef w q R t
  ap : ∀ k, S k → ¬ R k
  fr : Fr (fun _ => False) w0 w
  newA : ∀ k, S k → w0.heap.size ≤ k
  newR : ∀ k, R k → w0.heap.size ≤ k
section
variable {w0 w w' : World} {p : Nat} {S : Nat → Prop} {s s' : AS} {q : Nat} {R : Nat → Prop} {t t' : AS}
theorem Two.kept (h : Two w0 w p S s q R t) (hf : Fr (fun _ => False) w w') : Two w0 w' p S s q R t :=
  ⟨h.a.keep hf (fun _ _ h => h), h.r.keep hf (fun _ _ h => h), h.ap, h.fr.trans hf (fun _ h => h) (fun _ _ h => h), h.newA, h.newR⟩
theorem Two.drewN (h : Two w0 w p S s q R t) (n : Nat) : Two w0 (w.drewN n) p S s q R t := h.kept (Fr.drewN _ w n)
theorem Two.turnA (h : Two w0 w p S s q R t) (ht : Turned w w' p S s') : ∃ S', Two w0 w' p S' s' q R t := by
  obtain ⟨S', h1, h2, h3⟩ := ht
  refine ⟨S', h1, h.r.keep h2 (fun k hr hs => h.ap k hs hr), fun k hs hr => ?_, h.fr.trans h2 (fun _ h => h) (fun i hi hs => by have := h.newA i hs; omega), fun k hs => ?_, h.newR⟩
  · rcases h3 k hs with h4 | h4
    · exact h.ap k h4 hr
    · have := h.r.lt hr; omega
  · rcases h3 k hs with h4 | h4
    · exact h.newA k h4
    · have := h.fr.size; omega
theorem Two.turnR (h : Two w0 w p S s q R t) (ht : TurnedR w w' q R t') : ∃ R', Two w0 w' p S s q R' t' := by
  obtain ⟨R', h1, h2, h3⟩ := ht
  refine ⟨R', h.a.keep h2 (fun k hs hr => h.ap k hs hr), h1, fun k hs hr => ?_, h.fr.trans h2 (fun _ h => h) (fun i hi hs => by have := h.newR i hs; omega), h.newA, fun k hr => ?_⟩
  · rcases h3 k hr with h4 | h4
    · exact h.ap k hs h4
    · have := h.a.lt hs; omega
  · rcases h3 k hr with h4 | h4
    · exact h.newR k h4
    · have := h.fr.size; omega
end
/-- The same, with calls' own copies beside it. -/
structure TwoC (w0 w : World) (p : Nat) (S : Nat → Prop) (s : AS) (q : Nat) (R : Nat → Prop) (t : AS) (L : List (Nat × CallD)) : Prop where
  two : Two w0 w p S s q R t
  c : ∀ e ∈ L, w.heap[e.1]? = some (.cells #[.int .i64 e.2.kind, .int .i64 e.2.n, .int .i64 e.2.m, .int .i64 e.2.at_, .int .i64 e.2.v] 49 (0, 0)) ∧ ¬ S e.1 ∧ ¬ R e.1
section
variable {w0 w w' : World} {p : Nat} {S : Nat → Prop} {s s' : AS} {q : Nat} {R : Nat → Prop} {t t' : AS} {cb : Nat} {c : CallD} {L : List (Nat × CallD)}
theorem TwoC.cells (h : TwoC w0 w p S s q R t ((cb, c) :: L)) : w.cell? ⟨cb, 0, none⟩ = some (.int .i64 c.kind) ∧ w.cell? ⟨cb, 1, none⟩ = some (.int .i64 c.n) ∧ w.cell? ⟨cb, 2, none⟩ = some (.int .i64 c.m) ∧ w.cell? ⟨cb, 3, none⟩ = some (.int .i64 c.at_) ∧ w.cell? ⟨cb, 4, none⟩ = some (.int .i64 c.v) :=
  have h1 := (h.c _ List.mem_cons_self).1
  ⟨blk_cell h1 0, blk_cell h1 1, blk_cell h1 2, blk_cell h1 3, blk_cell h1 4⟩
theorem TwoC.tail {e : Nat × CallD} (h : TwoC w0 w p S s q R t (e :: L)) : TwoC w0 w p S s q R t L := ⟨h.two, fun x hx => h.c x (List.mem_cons_of_mem _ hx)⟩
theorem TwoC.kept (h : TwoC w0 w p S s q R t L) (hf : Fr (fun _ => False) w w') : TwoC w0 w' p S s q R t L :=
  ⟨h.two.kept hf, fun e he => ⟨hf.heap (h.c e he).1 id, (h.c e he).2⟩⟩
theorem TwoC.withC (h : TwoC w0 w p S s q R t L) (c : CallD) : TwoC w0 (w.alloc (.cells #[.int .i64 c.kind, .int .i64 c.n, .int .i64 c.m, .int .i64 c.at_, .int .i64 c.v] 49)) p S s q R t ((w.heap.size, c) :: L) := by
  have h1 := h.kept (Fr.alloc _ w (.cells #[.int .i64 c.kind, .int .i64 c.n, .int .i64 c.m, .int .i64 c.at_, .int .i64 c.v] 49))
  refine ⟨h1.two, fun e he => ?_⟩
  rcases List.mem_cons.1 he with rfl | he
  · exact ⟨heap_alloc_new w _, fun e => by have := h.two.a.lt e; simp only at this; omega, fun e => by have := h.two.r.lt e; simp only at this; omega⟩
  · exact h1.c e he
theorem TwoC.drewN (h : TwoC w0 w p S s q R t L) (n : Nat) : TwoC w0 (w.drewN n) p S s q R t L := h.kept (Fr.drewN _ w n)
theorem TwoC.turnA (h : TwoC w0 w p S s q R t L) (ht : Turned w w' p S s') : ∃ S', TwoC w0 w' p S' s' q R t L := by
  obtain ⟨S', h1, h2, h3⟩ := ht
  refine ⟨S', ⟨h1, h.two.r.keep h2 (fun k hr hs => h.two.ap k hs hr), fun k hs hr => ?_, h.two.fr.trans h2 (fun _ h => h) (fun i hi hs => by have := h.two.newA i hs; omega), fun k hs => ?_, h.two.newR⟩, fun e he => ⟨h2.heap (h.c e he).1 (h.c e he).2.1, fun hs => ?_, (h.c e he).2.2⟩⟩
  · rcases h3 k hs with h4 | h4
    · exact h.two.ap k h4 hr
    · have := h.two.r.lt hr; omega
  · rcases h3 k hs with h4 | h4
    · exact h.two.newA k h4
    · have := h.two.fr.size; omega
  · have hlt := (Array.getElem?_eq_some_iff.1 (h.c e he).1).1
    rcases h3 _ hs with h4 | h4
    · exact (h.c e he).2.1 h4
    · omega
theorem TwoC.turnR (h : TwoC w0 w p S s q R t L) (ht : TurnedR w w' q R t') : ∃ R', TwoC w0 w' p S s q R' t' L := by
  obtain ⟨R', h1, h2, h3⟩ := ht
  refine ⟨R', ⟨h.two.a.keep h2 (fun k hs hr => h.two.ap k hs hr), h1, fun k hs hr => ?_, h.two.fr.trans h2 (fun _ h => h) (fun i hi hs => by have := h.two.newR i hs; omega), h.two.newA, fun k hr => ?_⟩, fun e he => ⟨h2.heap (h.c e he).1 (h.c e he).2.2, (h.c e he).2.1, fun hs => ?_⟩⟩
  · rcases h3 k hr with h4 | h4
    · exact h.two.ap k hs h4
    · have := h.two.a.lt hs; omega
  · rcases h3 k hr with h4 | h4
    · exact h.two.newR k h4
    · have := h.two.fr.size; omega
  · have hlt := (Array.getElem?_eq_some_iff.1 (h.c e he).1).1
    rcases h3 _ hs with h4 | h4
    · exact (h.c e he).2.2 h4
    · omega
end
theorem TurnedR.same {w w' : World} {q : Nat} {R : Nat → Prop} {t' : AS} (h : IsRef w' q R t') (hf : Fr R w w') : TurnedR w w' q R t' := ⟨R, h, hf, fun _ h => .inl h⟩
/-- A call, as a value. -/
def callV (c : CallD) : Value := .agg #[.int .i64 c.kind, .int .i64 c.n, .int .i64 c.m, .int .i64 c.at_, .int .i64 c.v]
set_option maxRecDepth 100000 in
set_option maxHeartbeats 1000000 in
theorem done_any (p q : Nat) (c : CallD) (w0 w : World) (S R : Nat → Prop) (s : AS) (L : List (Nat × CallD)) (h : TwoC w0 w p S s q R s L) (hc : c.fit) :
    Calls Try.prog 37 #[.pointer (some ⟨p, 0, none⟩), .pointer (some ⟨q, 0, none⟩), callV c] w fun e w' => e = .returned (.bool true) ∧ ∃ S' R' s', TwoC w0 w' p S' s' q R' s' L := by
  obtain ⟨k, n, m, a, v⟩ := c
  have HT := Lib.hid hc; clear hc
  have HC := Lib.hid (h.withC ⟨k, n, m, a, v⟩); clear h
  simp only [callV]
  rcases Classical.em (k = 1) with rfl | k1
  · go_enter Try.func37, Try.ntmps37
    go_wp2_with fail
    obtain ⟨wc, hwc⟩ : ∃ wc, wc = w.alloc (.cells #[.int .i64 1, .int .i64 n, .int .i64 m, .int .i64 a, .int .i64 v] 49) := ⟨_, rfl⟩
    rw [← hwc] at HC ⊢
    obtain ⟨cb, hcb⟩ : ∃ cb, cb = w.heap.size := ⟨_, rfl⟩
    rw [← hcb] at HC ⊢
    clear hwc hcb
    refine (Make_any p n m S s _ HC.out.two.a HT.out.2.1).mono ?_
    rintro e w1 ⟨rfl, q1⟩
    obtain ⟨S1, h1⟩ := HC.out.turnA q1
    have H1 := Lib.hid h1
    obtain ⟨_, d1, d2, _⟩ := h1.cells
    clear q1 h1
    go_wp2_with fail
    refine (refMake_any q n m R s _ H1.out.two.r HC.out.two.a.good).mono ?_
    rintro e w2 ⟨rfl, q1⟩
    obtain ⟨R1, h2⟩ := H1.out.turnR q1
    have H2 := Lib.hid h2
    clear q1 h2
    obtain ⟨z1, hz1⟩ : ∃ z, z = s.makeA m := ⟨_, rfl⟩
    obtain ⟨z2, hz2⟩ : ∃ z, z = s.makeE m := ⟨_, rfl⟩
    rw [← hz1, ← hz2]
    clear hz1 hz2
    go_wp2
    go_ret
    exact ⟨rfl, S1, R1, _, H2.out.tail⟩
  have b1 : (k == 1) = false := by simpa using k1
  rcases Classical.em (k = 2) with rfl | k2
  · go_enter Try.func37, Try.ntmps37
    go_wp2_with fail
    obtain ⟨wc, hwc⟩ : ∃ wc, wc = w.alloc (.cells #[.int .i64 2, .int .i64 n, .int .i64 m, .int .i64 a, .int .i64 v] 49) := ⟨_, rfl⟩
    rw [← hwc] at HC ⊢
    obtain ⟨cb, hcb⟩ : ∃ cb, cb = w.heap.size := ⟨_, rfl⟩
    rw [← hcb] at HC ⊢
    clear hwc hcb
    have HD := Lib.hid (HC.out.drewN 1)
    go_region_held3 (fun w' => w'.cell? ⟨cb, 3, none⟩ = some (.int .i64 a) ∧ w'.cell? ⟨cb, 1, none⟩ = some (.int .i64 n) ∧ w'.cell? ⟨cb, 4, none⟩ = some (.int .i64 v))
      (first
        | exact ⟨HD.out.cells.2.2.2.1, HD.out.cells.2.1, HD.out.cells.2.2.2.2⟩
        | exact ⟨H1.out.cells.2.2.2.1, H1.out.cells.2.1, H1.out.cells.2.2.2.2⟩
        | exact ⟨H2.out.cells.2.2.2.1, H2.out.cells.2.1, H2.out.cells.2.2.2.2⟩)
      (first
        | (go_at_call 28; refine (Put_any p a n v S s _ HD.out.two.a HT.out.2.2.2.2).mono ?_; rintro e w1 ⟨rfl, q1, q2⟩; obtain ⟨S1, h1⟩ := HD.out.turnA (Turned.same q1 q2); have H1 := Lib.hid h1; clear q1 q2 h1)
        | (go_at_call 71; refine (refPut_any q a n v R s _ H1.out.two.r HC.out.two.a.good).mono ?_; rintro e w2 ⟨rfl, q1, q2⟩; obtain ⟨R2, h2⟩ := H1.out.turnR (TurnedR.same q1 q2); have H2 := Lib.hid h2; clear q1 q2 h2))
    go_wp2
    go_ret
    exact ⟨rfl, _, _, _, H2.out.tail⟩
  have b2 : (k == 2) = false := by simpa using k2
  rcases Classical.em (k = 3) with rfl | k3
  · go_enter Try.func37, Try.ntmps37
    go_wp2_with fail
    obtain ⟨wc, hwc⟩ : ∃ wc, wc = w.alloc (.cells #[.int .i64 3, .int .i64 n, .int .i64 m, .int .i64 a, .int .i64 v] 49) := ⟨_, rfl⟩
    rw [← hwc] at HC ⊢
    obtain ⟨cb, hcb⟩ : ∃ cb, cb = w.heap.size := ⟨_, rfl⟩
    rw [← hcb] at HC ⊢
    clear hwc hcb
    refine (Flip_any p S s _ HC.out.two.a).mono ?_
    rintro e w1 ⟨rfl, q1⟩
    obtain ⟨S1, h1⟩ := HC.out.turnA q1
    have H1 := Lib.hid h1
    obtain ⟨_, d1, d2, d3, _⟩ := h1.cells
    clear q1 h1
    go_wp2_with fail
    refine (refFlip_any q R s _ H1.out.two.r HC.out.two.a.good).mono ?_
    rintro e w2 ⟨rfl, q1⟩
    obtain ⟨R1, h2⟩ := H1.out.turnR q1
    have H2 := Lib.hid h2
    obtain ⟨_, d1, d2, d3, _⟩ := h2.cells
    clear q1 h2
    have hg2 : (AS.mk [] s.used (fun _ => none) s.semi).Good := H2.out.two.a.good
    go_wp2_with fail
    refine (Get_any p a n S1 _ _ H2.out.two.a).mono ?_
    rintro e w3 ⟨rfl, nd, rfl⟩
    have H3 := Lib.hid (H2.out.drewN nd)
    go_wp2_with fail
    refine (refGet_any q a n R1 _ _ H3.out.two.r hg2).mono ?_
    rintro e w4 ⟨rfl, ne, rfl⟩
    have H4 := Lib.hid (H3.out.drewN ne)
    obtain ⟨z1, hz1⟩ : ∃ z, z = getV (findOb 0 ([] : List Ob) a) n := ⟨_, rfl⟩
    obtain ⟨z2, hz2⟩ : ∃ z, z = slotE (findOb 0 ([] : List Ob) a) n := ⟨_, rfl⟩
    rw [← hz1, ← hz2]
    clear hz1 hz2
    go_wp2
    go_ret
    exact ⟨rfl, S1, R1, _, (H2.out.drewN (nd + ne)).tail⟩
  have b3 : (k == 3) = false := by simpa using k3
  rcases Classical.em (k = 4) with rfl | k4
  · go_enter Try.func37, Try.ntmps37
    go_wp2_with fail
    obtain ⟨wc, hwc⟩ : ∃ wc, wc = w.alloc (.cells #[.int .i64 4, .int .i64 n, .int .i64 m, .int .i64 a, .int .i64 v] 49) := ⟨_, rfl⟩
    rw [← hwc] at HC ⊢
    obtain ⟨cb, hcb⟩ : ∃ cb, cb = w.heap.size := ⟨_, rfl⟩
    rw [← hcb] at HC ⊢
    clear hwc hcb
    refine (Copy_any p a S s _ HC.out.two.a).mono ?_
    rintro e w1 ⟨rfl, q1⟩
    obtain ⟨S1, h1⟩ := HC.out.turnA q1
    have H1 := Lib.hid h1
    obtain ⟨_, d1, d2, d3, _⟩ := h1.cells
    clear q1 h1
    go_wp2_with fail
    refine (refCopy_any q a R s _ H1.out.two.r HC.out.two.a.good).mono ?_
    rintro e w2 ⟨rfl, q1⟩
    obtain ⟨R1, h2⟩ := H1.out.turnR q1
    have H2 := Lib.hid h2
    clear q1 h2
    obtain ⟨z1, hz1⟩ : ∃ z, z = s.copyA a := ⟨_, rfl⟩
    obtain ⟨z2, hz2⟩ : ∃ z, z = s.copyE a := ⟨_, rfl⟩
    rw [← hz1, ← hz2]
    clear hz1 hz2
    go_wp2
    go_ret
    exact ⟨rfl, S1, R1, _, H2.out.tail⟩
  have b4 : (k == 4) = false := by simpa using k4
  go_enter Try.func37, Try.ntmps37
  go_wp2_with fail
  obtain ⟨wc, hwc⟩ : ∃ wc, wc = w.alloc (.cells #[.int .i64 k, .int .i64 n, .int .i64 m, .int .i64 a, .int .i64 v] 49) := ⟨_, rfl⟩
  rw [← hwc] at HC ⊢
  obtain ⟨cb, hcb⟩ : ∃ cb, cb = w.heap.size := ⟨_, rfl⟩
  rw [← hcb] at HC ⊢
  clear hwc hcb
  refine (Get_any p a n S s _ HC.out.two.a).mono ?_
  rintro e w1 ⟨rfl, nd, rfl⟩
  have H1 := Lib.hid (HC.out.drewN nd)
  obtain ⟨_, d1, d2, d3, _⟩ := H1.out.cells
  go_wp2_with fail
  refine (refGet_any q a n R s _ H1.out.two.r HC.out.two.a.good).mono ?_
  rintro e w2 ⟨rfl, ne, rfl⟩
  have H2 := Lib.hid (H1.out.drewN ne)
  obtain ⟨z1, hz1⟩ : ∃ z, z = getV (findOb 0 s.used a) n := ⟨_, rfl⟩
  obtain ⟨z2, hz2⟩ : ∃ z, z = slotE (findOb 0 s.used a) n := ⟨_, rfl⟩
  rw [← hz1, ← hz2]
  clear hz1 hz2
  go_wp2
  go_ret
  exact ⟨rfl, S, R, _, (HC.out.drewN (nd + ne)).tail⟩
set_option maxRecDepth 100000 in
set_option maxHeartbeats 1000000 in
theorem asked_any (p q : Nat) (a : Int) (w0 w : World) (S R : Nat → Prop) (s : AS) (h : Two w0 w p S s q R s) :
    Calls Try.prog 39 #[.pointer (some ⟨p, 0, none⟩), .pointer (some ⟨q, 0, none⟩), .int .i64 a] w fun e w' => e = .returned (.bool true) ∧ w' = w := by
  have H := Lib.hid h
  have HG := Lib.hid h.a.good
  clear h
  go_enter Try.func39, Try.ntmps39
  go_wp2_with fail
  refine (Kind_any p a S s _ H.out.a).mono ?_
  rintro e w1 ⟨rfl, rfl⟩
  obtain ⟨z1, hz1⟩ : ∃ z, z = kindOf (findOb 0 s.used a) := ⟨_, rfl⟩
  obtain ⟨z2, hz2⟩ : ∃ z, z = errI (findOb 0 s.used a) := ⟨_, rfl⟩
  obtain ⟨z3, hz3⟩ : ∃ z, z = slotsOf (findOb 0 s.used a) := ⟨_, rfl⟩
  have HZ := Lib.hid (And.intro hz1 (And.intro hz2 hz3))
  rw [← hz1, ← hz2]
  clear hz1 hz2 hz3
  go_wp2_with fail
  refine (Slots_any p a S s _ H.out.a).mono ?_
  rintro e w2 ⟨rfl, rfl⟩
  rw [← HZ.out.2.2, ← HZ.out.2.1]
  obtain ⟨vl, va, hl, ha, tl, h1, h2⟩ := H.out.r
  have HR := Lib.hid h1
  clear h1 h2
  go_wp2_with fail
  refine (refAt_any q a vl va hl ha tl s _ HR.out HG.out).mono ?_
  rintro e w3 ⟨u, rfl, hf, rfl⟩
  rcases hf with ⟨j, o, x, hj, hx, hadr, hfd, rfl⟩ | ⟨hfd, rfl⟩
  · obtain ⟨e1, e2, e3⟩ := HZ.out
    rw [hfd] at e1 e2 e3
    have hob := HR.out.used.obs j o x hj hx
    have hd1 := blk_cell hob.cells 1
    have hd2 := blk_cell hob.cells 2
    simp only [List.getElem?_toArray, List.getElem?_cons_succ, List.getElem?_cons_zero] at hd1 hd2
    rw [show x.kind = z1 from e1.symm] at hd1
    have hrr := hob.row
    obtain ⟨ob, ov⟩ := o
    simp only [optr] at hd1 hd2 hrr ⊢
    obtain ⟨av, cv, rfl⟩ := row_form hrr
    obtain ⟨xn, hxn⟩ : ∃ xn, xn = x.vs.length := ⟨_, rfl⟩
    rw [← hxn] at hd2
    have f3 : z3 = (xn : Int) := by rw [hxn]; exact e3
    have f2 : z2 = 0 := e2
    clear hob hrr hj hx hadr hfd e1 e2 e3 hxn HZ
    subst f3 f2
    go_wp2_with fail
    go_wp2
    go_ret
    exact ⟨rfl, rfl⟩
  · obtain ⟨e1, e2, e3⟩ := HZ.out
    rw [hfd] at e1 e2 e3
    have f1 : z1 = 0 := e1
    have f2 : z2 = 57 := e2
    have f3 : z3 = 0 := e3
    clear HZ hfd e1 e2 e3
    subst f1 f2 f3
    go_wp2
    go_ret
    exact ⟨rfl, rfl⟩
end Go.Proofs.Ytniifefmjdjebaa
namespace Go.Proofs.Ytniifefmjdjebaa
open Go.RowKit
set_option linter.unusedVariables false
set_option linter.unusedSimpArgs false
theorem IsRef.usedCell {w : World} {q : Nat} {R : Nat → Prop} {s : AS} (h : IsRef w q R s) : w.cell? ⟨q, 1, none⟩ = some (.int .i64 (tot s.used : Nat)) := by
  obtain ⟨vl, va, hl, ha, tl, h1, h2⟩ := h
  exact blk_cell h1.top 1
set_option maxRecDepth 100000 in
set_option maxHeartbeats 8000000 in
theorem Same_any (p q : Nat) (w0 w : World) (S R : Nat → Prop) (s : AS) (L : List (Nat × CallD)) (h : TwoC w0 w p S s q R s L) :
    Calls Try.prog 38 #[.pointer (some ⟨p, 0, none⟩), .pointer (some ⟨q, 0, none⟩)] w fun e w' => e = .returned (.bool true) ∧ TwoC w0 w' p S s q R s L := by
  have HD := Lib.hid (h.drewN 1)
  have HG := Lib.hid h.two.a.good
  clear h
  obtain ⟨tt, htt⟩ : ∃ n, n = tot s.used := ⟨_, rfl⟩
  have Htt := Lib.hid htt
  clear htt
  obtain ⟨T, hT⟩ : ∃ T, T = strOfNums (encs s.used) := ⟨_, rfl⟩
  have HT := Lib.hid hT
  clear hT
  go_enter Try.func38, Try.ntmps38
  go_wp2_with fail
  have c1 : w.cell? ⟨q, 1, none⟩ = some (.int .i64 tt) := by rw [Htt.out]; exact HD.out.two.r.usedCell
  have c1b : w.drew.cell? ⟨q, 1, none⟩ = some (.int .i64 tt) := c1
  go_region_with (first
      | (go_at_call 24; refine (Used_any p S s _ HD.out.two.a).mono ?_; rw [← Htt.out]; rintro e w1 ⟨rfl, rfl⟩)
      | (go_at_call 27; refine (All_any p S s _ HD.out.two.a).mono ?_; rintro e w1 ⟨v1, rfl, r1, r2, r3⟩; have H1 := Lib.hid (HD.out.kept r2); have Ra := Lib.hid r1; clear r1 r2 r3)
      | (go_at_call 41; refine (refAll_any q R s _ H1.out.two.r HG.out).mono ?_; rintro e w2 ⟨v2, rfl, r1, r2, r3⟩; have H2 := Lib.hid (H1.out.kept r2); have Rb := Lib.hid (And.intro (r2.row Ra.out (fun _ _ h => h)) r1); clear r1 r2 r3)
      | (go_at_call 29; refine (SameWords_any v1 v2 (addrs 0 s.used) (addrs 0 s.used) _ (by simpa only [List.length_map] using Rb.out.1) (by simpa only [List.length_map] using Rb.out.2)).mono ?_; rw [show sameW (addrs 0 s.used) (addrs 0 s.used) = true from decide_eq_true rfl]; rintro e w3 ⟨rfl, nd, hw3⟩; have H3 := Lib.hid (show TwoC w0 w3 p S s q R s L from by rw [hw3]; exact H2.out.drewN nd); clear hw3)
      | (go_at_call 25; refine (Bytes_any p S s _ H3.out.two.a).mono ?_; rintro e w4 ⟨v4, rfl, r1, r2, r3⟩; have H4 := Lib.hid (H3.out.kept r2); have Rc := Lib.hid r1; have k4 := conv_row r1; rw [← HT.out] at k4; clear r1 r2 r3)
      | (go_at_call 75; refine (refBytes_any q R s _ H4.out.two.r HG.out).mono ?_; rintro e w5 ⟨v5, rfl, r1, r2, r3⟩; have H5 := Lib.hid (H4.out.kept r2); have k5 := conv_row r1; have k6 := conv_row (r2.row Rc.out (fun _ _ h => h)); rw [← HT.out] at k5 k6; clear r1 r2 r3))
  all_goals (go_wp2; go_ret; exact ⟨rfl, H5.out⟩)
end Go.Proofs.Ytniifefmjdjebaa
