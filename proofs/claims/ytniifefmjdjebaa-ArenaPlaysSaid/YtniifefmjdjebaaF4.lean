/- The document's arena: what its writes leave. -/
import Derived.Test.YtniifefmjdjebaaF3
namespace Go.Proofs.Ytniifefmjdjebaa
open Go.RowKit
set_option linter.unusedVariables false
set_option linter.unusedSimpArgs false

theorem HApart.symm {a b : OH} (h : HApart a b) : HApart b a := ⟨fun e => h.1 e.symm, fun k hb ha => h.2 k ha hb⟩
theorem apart_at {L : List OH} (h : L.Pairwise HApart) {i j : Nat} (hij : i ≠ j) {a b : OH} (ha : L[i]? = some a) (hb : L[j]? = some b) : HApart a b := by
  obtain ⟨h1, rfl⟩ := List.getElem?_eq_some_iff.1 ha
  obtain ⟨h2, rfl⟩ := List.getElem?_eq_some_iff.1 hb
  rw [List.pairwise_iff_getElem] at h
  rcases Nat.lt_or_gt_of_ne hij with hlt | hlt
  · exact h i j h1 h2 hlt
  · exact (h j i h2 h1 hlt).symm
theorem tot_take_set (l : List Ob) (i j : Nat) (x y : Ob) (hx : l[i]? = some x) (hs : y.vs.length = x.vs.length) : tot ((l.set i y).take j) = tot (l.take j) := by
  obtain ⟨hl, hx'⟩ := List.getElem?_eq_some_iff.1 hx
  have hm : (l.set i y).map Ob.size = l.map Ob.size := by
    rw [List.map_set]
    apply List.ext_getElem?
    intro k
    by_cases hk : k = i
    · subst hk
      rw [List.getElem?_set_self (by simpa using hl), List.getElem?_map, hx]
      simp [Ob.size, hs]
    · rw [List.getElem?_set_ne (Ne.symm hk)]
  unfold tot
  rw [List.map_take, hm, ← List.map_take]
theorem adr_set (l : List Ob) (i j : Nat) (x y : Ob) (hx : l[i]? = some x) (hs : y.vs.length = x.vs.length) : adr (l.set i y) j = adr l j := by
  unfold adr; rw [tot_take_set l i j x y hx hs]
theorem tot_set (l : List Ob) (i : Nat) (x y : Ob) (hx : l[i]? = some x) (hs : y.vs.length = x.vs.length) : tot (l.set i y) = tot l := by
  have := tot_take_set l i l.length x y hx hs
  rwa [List.take_length, List.take_of_length_le (by simp)] at this
section
variable {w w' : World} {q : Nat} {vl va : Value} {hl ha : List OH} {tl : Nat → Int} {s : AS}
/-- The blocks of objects, of slots, of rows, and the top's, are of different kinds. -/
theorem IsRef'.ocell (h : IsRef' w q vl va hl ha tl s) {o : OH} (ho : o ∈ hl ++ ha) : ∃ a x t, OCell w o a x t := by
  rcases List.mem_append.1 ho with ho | ho
  · obtain ⟨i, x, _, _, hc⟩ := h.used.at ho; exact ⟨_, _, _, hc⟩
  · obtain ⟨i, x, _, _, hc⟩ := h.ahead.at ho; exact ⟨_, _, _, hc⟩
theorem IsRef'.ob_ne (h : IsRef' w q vl va hl ha tl s) {o : OH} (ho : o ∈ hl ++ ha) : o.1 ≠ q ∧ vl.ownBlock ≠ some o.1 ∧ va.ownBlock ≠ some o.1 ∧ ∀ o' ∈ hl ++ ha, o'.2.ownBlock ≠ some o.1 := by
  obtain ⟨a, x, t, hc⟩ := h.ocell ho
  refine ⟨fun e => ?_, fun e => ?_, fun e => ?_, fun o' ho' e => ?_⟩
  · have := blk_ty (e ▸ hc.cells) h.top; exact absurd this (by decide)
  · obtain ⟨cur, hb⟩ := row_cells h.used.row e; exact absurd (blk_ty hc.cells hb) (by decide)
  · obtain ⟨cur, hb⟩ := row_cells h.ahead.row e; exact absurd (blk_ty hc.cells hb) (by decide)
  · obtain ⟨a', x', t', hc'⟩ := h.ocell ho'
    obtain ⟨cur, hb⟩ := row_cells hc'.row e; exact absurd (blk_ty hc.cells hb) (by decide)
theorem IsRef'.vs_ne (h : IsRef' w q vl va hl ha tl s) {o : OH} (ho : o ∈ hl ++ ha) {g : Nat} (hg : o.2.ownBlock = some g) : g ≠ q ∧ vl.ownBlock ≠ some g ∧ va.ownBlock ≠ some g ∧ ∀ o' ∈ hl ++ ha, o'.1 ≠ g := by
  obtain ⟨a, x, t, hc⟩ := h.ocell ho
  obtain ⟨cur, hb⟩ := row_cells hc.row hg
  refine ⟨fun e => ?_, fun e => ?_, fun e => ?_, fun o' ho' e => ?_⟩
  · have := blk_ty (e ▸ hb) h.top; exact absurd this (by decide)
  · obtain ⟨cur', hb'⟩ := row_cells h.used.row e; exact absurd (blk_ty hb hb') (by decide)
  · obtain ⟨cur', hb'⟩ := row_cells h.ahead.row e; exact absurd (blk_ty hb hb') (by decide)
  · obtain ⟨a', x', t', hc'⟩ := h.ocell ho'
    exact absurd (blk_ty (e ▸ hc'.cells) hb) (by decide)
theorem IsRef'.row_ne (h : IsRef' w q vl va hl ha tl s) : vl.ownBlock ≠ some q ∧ va.ownBlock ≠ some q := by
  refine ⟨fun e => ?_, fun e => ?_⟩
  · obtain ⟨cur', hb'⟩ := row_cells h.used.row e; exact absurd (blk_ty hb' h.top) (by decide)
  · obtain ⟨cur', hb'⟩ := row_cells h.ahead.row e; exact absurd (blk_ty hb' h.top) (by decide)
/-- A slot of an object of the used half is written. -/
theorem IsRef'.store (h : IsRef' w q vl va hl ha tl s) {i j b g cap : Nat} {x : Ob} {v : Int} (ho : hl[i]? = some (b, .slice (some ⟨g, 0, none⟩) x.vs.length cap)) (hx : s.used[i]? = some x) :
    IsRef' (w.setCell ⟨g, j, none⟩ (.int .i64 v)) q vl va hl ha tl { s with used := s.used.set i ⟨x.kind, x.vs.set j v⟩ } ∧ Fr (RBlocks q vl va (hl ++ ha)) w (w.setCell ⟨g, j, none⟩ (.int .i64 v)) := by
  have hmem : (b, Value.slice (some ⟨g, 0, none⟩) x.vs.length cap) ∈ hl ++ ha := List.mem_append_left _ (List.mem_of_getElem? ho)
  have hg : (Value.slice (some ⟨g, 0, none⟩) x.vs.length cap).ownBlock = some g := rfl
  obtain ⟨n1, n2, n3, n4⟩ := h.vs_ne hmem hg
  have hil : i < hl.length := (List.getElem?_eq_some_iff.1 ho).1
  have hiu : i < s.used.length := (List.getElem?_eq_some_iff.1 hx).1
  have hf : Fr (fun k => k = g) w (w.setCell ⟨g, j, none⟩ (.int .i64 v)) := Fr.setCell w _ _ rfl
  have hoc := h.used.obs i _ x ho hx
  refine ⟨⟨?_, ⟨?_, ?_⟩, ?_, h.apart, h.rows, h.moved⟩, hf.mono fun k _ e => .inr (.inr (.inr ⟨_, hmem, .inr (e ▸ hg)⟩))⟩
  · show _ = some (Obj.cells #[_, .int .i64 ((tot (s.used.set i ⟨x.kind, x.vs.set j v⟩) : Nat)), _, _] 107 (0, 0))
    rw [tot_set s.used i x _ hx (by simp)]
    exact hf.heap h.top (fun e => n1 e.symm)
  · show World.ownsRow _ 0 113 1 vl (s.used.set i _).length _
    rw [List.length_set]
    exact hf.row h.used.row (fun k hk e => n2 (e ▸ hk))
  · intro i' o' x' ho' hx'
    show OCell _ o' (adr (s.used.set i ⟨x.kind, x.vs.set j v⟩) i') x' (tl i')
    rw [adr_set s.used i i' x _ hx (by simp)]
    by_cases hii : i' = i
    · subst hii
      rw [List.getElem?_set_self hiu] at hx'
      obtain rfl := Option.some.inj hx'
      rw [ho] at ho'
      obtain rfl := Option.some.inj ho'
      refine ⟨hf.heap hoc.cells (n4 _ hmem), ?_⟩
      have := (hoc.row.stored j (.int .i64 v)).1
      simp only [List.length_set, List.map_set]
      exact this
    · rw [List.getElem?_set_ne (Ne.symm hii)] at hx'
      have hm' : o' ∈ hl ++ ha := List.mem_append_left _ (List.mem_of_getElem? ho')
      refine (h.used.obs i' o' x' ho' hx').keep hf (n4 o' hm') (fun k hk e => ?_)
      have hap := apart_at (List.pairwise_append.1 h.apart).1 (Ne.symm hii) ho ho'
      exact hap.2 g hg (e ▸ hk)
  · refine h.ahead.keep hf (fun k hk e => n3 (e ▸ hk)) (fun o' ho' => ⟨n4 o' (List.mem_append_right _ ho'), fun k hk e => ?_⟩)
    exact ((List.pairwise_append.1 h.apart).2.2 _ (List.mem_of_getElem? ho) o' ho').2 g hg (e ▸ hk)
/-- An object of the half ahead is told where it was copied. -/
theorem IsRef'.told (h : IsRef' w q vl va hl ha tl s) {i b : Nat} {vv : Value} {x : Ob} {t : Int} (ho : ha[i]? = some (b, vv)) (hx : s.ahead[i]? = some x) (ht : 8 ≤ t) :
    IsRef' (w.setCell ⟨b, 3, none⟩ (.int .i64 t)) q vl va hl ha tl { s with moved := fun a => if a = adr s.ahead i then some t else s.moved a } ∧ Fr (RBlocks q vl va (hl ++ ha)) w (w.setCell ⟨b, 3, none⟩ (.int .i64 t)) := by
  have hmem : (b, vv) ∈ hl ++ ha := List.mem_append_right _ (List.mem_of_getElem? ho)
  obtain ⟨n1, n2, n3, n4⟩ := h.ob_ne hmem
  have hf : Fr (fun k => k = b) w (w.setCell ⟨b, 3, none⟩ (.int .i64 t)) := Fr.setCell w _ _ rfl
  have hiu : i < s.ahead.length := (List.getElem?_eq_some_iff.1 hx).1
  have hoc := h.ahead.obs i _ x ho hx
  refine ⟨⟨hf.heap h.top (fun e => n1 e.symm), ?_, ⟨hf.row h.ahead.row (fun k hk e => n3 (e ▸ hk)), ?_⟩, h.apart, h.rows, ?_⟩, hf.mono fun k _ e => .inr (.inr (.inr ⟨_, hmem, .inl e.symm⟩))⟩
  · refine h.used.keep hf (fun k hk e => n2 (e ▸ hk)) (fun o' ho' => ⟨fun e => ?_, fun k hk e => n4 o' (List.mem_append_left _ ho') (e ▸ hk)⟩)
    exact ((List.pairwise_append.1 h.apart).2.2 o' ho' _ (List.mem_of_getElem? ho)).1 e
  · intro i' o' x' ho' hx'
    show OCell _ o' (adr s.ahead i') x' ((if adr s.ahead i' = adr s.ahead i then some t else s.moved (adr s.ahead i')).getD 0)
    by_cases hii : i' = i
    · subst hii
      rw [ho] at ho'
      obtain rfl := Option.some.inj ho'
      rw [hx] at hx'
      obtain rfl := Option.some.inj hx'
      rw [if_pos rfl]
      refine ⟨?_, hf.row hoc.row (fun k hk e => n4 _ hmem (e ▸ hk))⟩
      have := heap_setCell_same w b 3 _ 116 (.int .i64 t) hoc.cells
      rw [this]
      rfl
    · rw [if_neg (fun e => hii (adr_inj s.ahead (List.getElem?_eq_some_iff.1 hx').1 hiu e))]
      refine (h.ahead.obs i' o' x' ho' hx').keep hf (fun e => ?_) (fun k hk e => n4 o' (List.mem_append_right _ (List.mem_of_getElem? ho')) (e ▸ hk))
      exact (apart_at (List.pairwise_append.1 h.apart).2.1 (Ne.symm hii) ho ho').1 e.symm
  · intro a t' ht'
    show 8 ≤ t'
    change (if a = adr s.ahead i then some t else s.moved a) = some t' at ht'
    split at ht'
    · obtain rfl := Option.some.inj ht'; exact ht
    · exact h.moved a t' ht'
/-- An object is made: its block and that of its slots are new. -/
theorem IsRef'.made (h : IsRef' w q vl va hl ha tl s) {vl' vv : Value} {b : Nat} {x : Ob} {t : Int} (hf : Fr (fun k => k = q ∨ vl.ownBlock = some k) w w')
    (htop : w'.heap[q]? = some (.cells #[.int .i64 s.semi, .int .i64 (tot (s.used ++ [x]) : Nat), vl', va] 107 (0, 0)))
    (hrow : w'.ownsRow 0 113 1 vl' (hl.length + 1) (hl.map optr ++ [optr (b, vv)])) (hloc : ∀ k, vl'.ownBlock = some k → vl.ownBlock = some k ∨ w.heap.size ≤ k)
    (hoc : OCell w' (b, vv) (tot s.used + 8) x t) (hb : w.heap.size ≤ b) (hv : ∀ k, vv.ownBlock = some k → w.heap.size ≤ k) :
    IsRef' w' q vl' va (hl ++ [(b, vv)]) ha (fun i => if i = s.used.length then t else tl i) { s with used := s.used ++ [x] } := by
  have hlen := h.used.length
  have hold : ∀ o ∈ hl ++ ha, o.1 < w.heap.size ∧ ∀ k, o.2.ownBlock = some k → k < w.heap.size := fun o ho => by
    obtain ⟨a, x, t, hc⟩ := h.ocell ho
    exact ⟨(Array.getElem?_eq_some_iff.1 hc.cells).1, fun k hk => row_lt hc.row hk⟩
  have hkeep : ∀ o ∈ hl ++ ha, ¬ (o.1 = q ∨ vl.ownBlock = some o.1) ∧ ∀ k, o.2.ownBlock = some k → ¬ (k = q ∨ vl.ownBlock = some k) := fun o ho => by
    obtain ⟨n1, n2, _, _⟩ := h.ob_ne ho
    refine ⟨fun e => e.elim n1 n2, fun k hk e => ?_⟩
    obtain ⟨m1, m2, _, _⟩ := h.vs_ne ho hk
    exact e.elim m1 m2
  have hnew : ∀ o ∈ hl ++ ha, HApart o (b, vv) := fun o ho => by
    obtain ⟨h1, h2⟩ := hold o ho
    exact ⟨fun e => by simp only at e; omega, fun k hk e => by have := hv k e; have := h2 k hk; omega⟩
  refine ⟨htop, ⟨?_, ?_⟩, ?_, ?_, ?_, h.moved⟩
  · rw [List.map_append, List.length_append, ← hlen]
    exact hrow
  · intro i o y hio hiy
    show OCell _ o (adr (s.used ++ [x]) i) y (if i = s.used.length then t else tl i)
    by_cases hi : i < s.used.length
    · rw [if_neg (by omega)]
      rw [List.getElem?_append_left (by omega)] at hio
      rw [List.getElem?_append_left hi] at hiy
      rw [show adr (s.used ++ [x]) i = adr s.used i from by unfold adr; rw [List.take_append_of_le_length (by omega)]]
      have hm := hkeep o (List.mem_append_left _ (List.mem_of_getElem? hio))
      exact (h.used.obs i o y hio hiy).keep hf hm.1 hm.2
    · have hlt : i < (s.used ++ [x]).length := (List.getElem?_eq_some_iff.1 hiy).1
      obtain rfl : i = s.used.length := by simp at hlt; omega
      rw [if_pos rfl]
      rw [List.getElem?_append_right (by omega), ← hlen] at hio
      rw [List.getElem?_append_right (by omega)] at hiy
      simp at hio hiy
      subst hio hiy
      rw [show adr (s.used ++ [x]) s.used.length = tot s.used + 8 from by unfold adr; rw [List.take_left]]
      exact hoc
  · refine h.ahead.keep hf (fun k hk e => ?_) (fun o ho => hkeep o (List.mem_append_right _ ho))
    rcases e with rfl | e
    · exact h.row_ne.2 hk
    · exact h.rows k e hk
  · rw [List.append_assoc]
    obtain ⟨p1, p2, p3⟩ := List.pairwise_append.1 h.apart
    refine List.pairwise_append.2 ⟨p1, List.pairwise_cons.2 ⟨fun o ho => (hnew o (List.mem_append_right _ ho)).symm, p2⟩, fun o ho o' ho' => ?_⟩
    rcases List.mem_cons.1 ho' with rfl | ho'
    · exact hnew o (List.mem_append_left _ ho)
    · exact p3 o ho o' ho'
  · intro k hk e
    rcases hloc k hk with h1 | h1
    · exact h.rows k h1 e
    · have := row_lt h.ahead.row e; omega
end
end Go.Proofs.Ytniifefmjdjebaa
