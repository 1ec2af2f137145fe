/- The document's arena: objects on the heap, in two rows of pointers. -/
import Derived.Test.YtniifefmjdjebaaE4
namespace Go.Proofs.Ytniifefmjdjebaa
open Go.RowKit
set_option linter.unusedVariables false
set_option linter.unusedSimpArgs false

/-- Where an object stands: its block, the value of its field V. -/
abbrev OH := Nat × Value
def optr (h : OH) : Value := .pointer (some ⟨h.1, 0, none⟩)
structure OCell (w : World) (h : OH) (a : Int) (x : Ob) (tgt : Int) : Prop where
  cells : w.heap[h.1]? = some (.cells #[.int .i64 a, .int .i64 x.kind, h.2, .int .i64 tgt] 116 (0, 0))
  row : w.ownsRow 0 2 1 h.2 x.vs.length (x.vs.map (Value.int .i64))
def HApart (a b : OH) : Prop := a.1 ≠ b.1 ∧ ∀ k, a.2.ownBlock = some k → b.2.ownBlock ≠ some k
/-- A row of objects: values, kinds and slots are those of the list. -/
structure RHalf (w : World) (v : Value) (hs : List OH) (l : List Ob) (tgt : Nat → Int) : Prop where
  row : w.ownsRow 0 113 1 v l.length (hs.map optr)
  obs : ∀ i h x, hs[i]? = some h → l[i]? = some x → OCell w h (adr l i) x (tgt i)
structure IsRef' (w : World) (q : Nat) (vl va : Value) (hl ha : List OH) (tl : Nat → Int) (s : AS) : Prop where
  top : w.heap[q]? = some (.cells #[.int .i64 s.semi, .int .i64 (tot s.used : Nat), vl, va] 107 (0, 0))
  used : RHalf w vl hl s.used tl
  ahead : RHalf w va ha s.ahead (fun i => (s.moved (adr s.ahead i)).getD 0)
  apart : (hl ++ ha).Pairwise HApart
  rows : ∀ k, vl.ownBlock = some k → va.ownBlock ≠ some k
  moved : ∀ a t, s.moved a = some t → 8 ≤ t
def RBlocks (q : Nat) (vl va : Value) (hs : List OH) (k : Nat) : Prop := k = q ∨ vl.ownBlock = some k ∨ va.ownBlock = some k ∨ ∃ h ∈ hs, h.1 = k ∨ h.2.ownBlock = some k
def IsRef (w : World) (q : Nat) (S : Nat → Prop) (s : AS) : Prop := ∃ vl va hl ha tl, IsRef' w q vl va hl ha tl s ∧ ∀ k, S k ↔ RBlocks q vl va (hl ++ ha) k
/-- What holds of every state of an arena. -/
structure AS.Good (s : AS) : Prop where
  lo : 256 ≤ s.semi
  hi : s.semi ≤ 1048576
  fits : tot s.used ≤ s.semi
  before : tot s.ahead ≤ 1048576
  used : ∀ x ∈ s.used, x.ok
  ahead : ∀ x ∈ s.ahead, x.ok
theorem IsArena.good {w : World} {p : Nat} {S : Nat → Prop} {s : AS} (h : IsArena w p S s) : s.Good := by
  obtain ⟨vb, vl, m, vb', vl', mo', mv, hp, h1, h2, h3, h4, h5, h6, h7, h8, h9, h10, h11, hS⟩ := h
  exact ⟨h10, h11, h9, h3.small, h1.ok, h3.ok⟩
theorem OCell.keep {T : Nat → Prop} {w w' : World} {h : OH} {a : Int} {x : Ob} {tgt : Int} (hc : OCell w h a x tgt) (hf : Fr T w w') (h1 : ¬ T h.1) (h2 : ∀ k, h.2.ownBlock = some k → ¬ T k) : OCell w' h a x tgt :=
  ⟨hf.heap hc.cells h1, hf.row hc.row h2⟩
theorem RHalf.length {w : World} {v : Value} {hs : List OH} {l : List Ob} {tgt : Nat → Int} (h : RHalf w v hs l tgt) : hs.length = l.length := by simpa using h.row.1
theorem RHalf.keep {T : Nat → Prop} {w w' : World} {v : Value} {hs : List OH} {l : List Ob} {tgt : Nat → Int} (h : RHalf w v hs l tgt) (hf : Fr T w w') (h1 : ∀ k, v.ownBlock = some k → ¬ T k) (h2 : ∀ h ∈ hs, ¬ T h.1 ∧ ∀ k, h.2.ownBlock = some k → ¬ T k) : RHalf w' v hs l tgt :=
  ⟨hf.row h.row h1, fun i o x hi hx => (h.obs i o x hi hx).keep hf (h2 o (List.mem_of_getElem? hi)).1 (h2 o (List.mem_of_getElem? hi)).2⟩
theorem RHalf.at {w : World} {v : Value} {hs : List OH} {l : List Ob} {tgt : Nat → Int} (h : RHalf w v hs l tgt) {o : OH} (ho : o ∈ hs) : ∃ i x, hs[i]? = some o ∧ l[i]? = some x ∧ OCell w o (adr l i) x (tgt i) := by
  obtain ⟨i, hi⟩ := List.mem_iff_getElem?.1 ho
  have hlt : i < l.length := by rw [← h.length]; exact (List.getElem?_eq_some_iff.1 hi).1
  exact ⟨i, l[i], hi, List.getElem?_eq_getElem hlt, h.obs i o _ hi (List.getElem?_eq_getElem hlt)⟩
theorem IsRef'.keep {T : Nat → Prop} {w w' : World} {q : Nat} {vl va : Value} {hl ha : List OH} {tl : Nat → Int} {s : AS} (h : IsRef' w q vl va hl ha tl s) (hf : Fr T w w') (hd : ∀ k, RBlocks q vl va (hl ++ ha) k → ¬ T k) : IsRef' w' q vl va hl ha tl s :=
  ⟨hf.heap h.top (hd _ (.inl rfl)),
   h.used.keep hf (fun k hk => hd k (.inr (.inl hk))) (fun o ho => ⟨hd _ (.inr (.inr (.inr ⟨o, List.mem_append_left _ ho, .inl rfl⟩))), fun k hk => hd k (.inr (.inr (.inr ⟨o, List.mem_append_left _ ho, .inr hk⟩)))⟩),
   h.ahead.keep hf (fun k hk => hd k (.inr (.inr (.inl hk)))) (fun o ho => ⟨hd _ (.inr (.inr (.inr ⟨o, List.mem_append_right _ ho, .inl rfl⟩))), fun k hk => hd k (.inr (.inr (.inr ⟨o, List.mem_append_right _ ho, .inr hk⟩)))⟩),
   h.apart, h.rows, h.moved⟩
theorem IsRef.keep {T : Nat → Prop} {w w' : World} {q : Nat} {S : Nat → Prop} {s : AS} (h : IsRef w q S s) (hf : Fr T w w') (hd : ∀ k, S k → ¬ T k) : IsRef w' q S s := by
  obtain ⟨vl, va, hl, ha, tl, h1, h2⟩ := h
  exact ⟨vl, va, hl, ha, tl, h1.keep hf (fun k hk => hd k ((h2 k).2 hk)), h2⟩
theorem IsRef.drewN {w : World} {q : Nat} {S : Nat → Prop} {s : AS} (h : IsRef w q S s) (n : Nat) : IsRef (w.drewN n) q S s := h.keep (T := fun _ => False) (Fr.drewN _ w n) (fun _ _ e => e)
/-- The block of a row is one of cells of its elements. -/
theorem row_cells {w : World} {base e size n : Nat} {v : Value} {xs : List Value} (h : w.ownsRow base e size v n xs) {k : Nat} (hk : v.ownBlock = some k) : ∃ cur, w.heap[k]? = some (.cells cur e (0, 0)) := by
  rcases h.2 with ⟨rfl, _⟩ | ⟨g, cap, cur, rfl, _, hg, _⟩
  · cases hk
  · obtain rfl : g = k := by simpa [Value.ownBlock] using hk
    exact ⟨cur, hg⟩
theorem blk_ty {w : World} {k : Nat} {c1 c2 : Array Value} {t1 t2 : TypeId} {f1 f2 : Nat × Nat} (h1 : w.heap[k]? = some (.cells c1 t1 f1)) (h2 : w.heap[k]? = some (.cells c2 t2 f2)) : t1 = t2 := by
  rw [h1] at h2
  simp only [Option.some.injEq, Obj.cells.injEq] at h2
  exact h2.2.1
theorem IsRef.lt {w : World} {q : Nat} {S : Nat → Prop} {s : AS} (h : IsRef w q S s) {k : Nat} (hk : S k) : k < w.heap.size := by
  obtain ⟨vl, va, hl, ha, tl, h1, h2⟩ := h
  rcases (h2 k).1 hk with rfl | hk | hk | ⟨o, ho, hk⟩
  · exact (Array.getElem?_eq_some_iff.1 h1.top).1
  · exact row_lt h1.used.row hk
  · exact row_lt h1.ahead.row hk
  · have : ∃ a x tgt, OCell w o a x tgt := by
      rcases List.mem_append.1 ho with ho | ho
      · obtain ⟨i, x, _, _, hc⟩ := h1.used.at ho; exact ⟨_, _, _, hc⟩
      · obtain ⟨i, x, _, _, hc⟩ := h1.ahead.at ho; exact ⟨_, _, _, hc⟩
    obtain ⟨a, x, tgt, hc⟩ := this
    rcases hk with rfl | hk
    · exact (Array.getElem?_eq_some_iff.1 hc.cells).1
    · exact row_lt hc.row hk
theorem findOb_none {l : List Ob} {a : Int} (h : ∀ j, j < l.length → adr l j ≠ a) : findOb 0 l a = none := by
  cases hx : findOb 0 l a with
  | none => rfl
  | some x =>
    exfalso
    obtain ⟨l1, l2, rfl, rfl⟩ := findOb_split l 0 a x hx
    apply h l1.length (by simp)
    unfold adr
    rw [List.take_left]
    omega
/-- Where an object of that address stands in a list. -/
def FoundAt (hs : List OH) (l : List Ob) (a : Int) (v : Value) : Prop :=
  (∃ j h x, hs[j]? = some h ∧ l[j]? = some x ∧ adr l j = a ∧ findOb 0 l a = some x ∧ v = optr h) ∨ (findOb 0 l a = none ∧ v = .pointer none)
set_option maxRecDepth 100000 in
set_option maxHeartbeats 400000 in
theorem find_any (v : Value) (hs : List OH) (l : List Ob) (tgt : Nat → Int) (a : Int) (w : World) (h : RHalf w v hs l tgt) (hl : tot l ≤ 1048576) :
    Calls Try.prog 82 #[v, .int .i64 a] w fun e w' => ∃ u, e = .returned u ∧ FoundAt hs l a u ∧ w' = w := by
  obtain ⟨av, cv, rfl⟩ := row_form h.row
  have H := Lib.hid h; clear h
  have hll := len_le_tot l
  obtain ⟨n, hn⟩ : ∃ n, n = l.length := ⟨_, rfl⟩
  have Hn := Lib.hid hn
  rw [← hn] at hll ⊢
  clear hn
  go_enter Try.func82, Try.ntmps82
  go_wp2
  go_loop [5] (fun i => ∃ k : Nat, k ≤ n ∧ i = .int .i64 k ∧ ∀ j, j < k → adr l j ≠ a) (fun i => (n - intOf i).toNat)
  case atStart => exact ⟨0, by omega, rfl, fun j hj => by omega⟩
  case round =>
    obtain ⟨k, hk, rfl, hne⟩ := hrel
    have HNe := Lib.hid hne; clear hne
    by_cases hlt : k < n
    · have hr := H.out.row
      rw [← Hn.out] at hr
      obtain ⟨g, c, _, e1, _, _, _⟩ := row_addr hr (by omega)
      simp only [Value.slice.injEq, true_and] at e1
      obtain ⟨rfl, rfl⟩ := e1
      have hkl : k < l.length := by rw [← Hn.out]; exact hlt
      have hkh : k < hs.length := by rw [H.out.length]; exact hkl
      obtain ⟨o, ho⟩ : ∃ o, o = hs[k] := ⟨_, rfl⟩
      have ho' : hs[k]? = some o := by rw [List.getElem?_eq_getElem hkh, ho]
      have hc := row_cell hr (j := k) (u := optr o) (by rw [List.getElem?_map, ho']; rfl)
      have hob := H.out.obs k o _ ho' (List.getElem?_eq_getElem hkl)
      have hc0 := blk_cell hob.cells 0
      simp only [List.getElem?_toArray, List.getElem?_cons_succ, List.getElem?_cons_zero] at hc0
      have Ho := Lib.hid ho'
      have Hkl := Lib.hid hkl
      obtain ⟨ob, ov⟩ := o
      simp only [optr] at hc hc0
      clear hr hkl hkh hob ho ho'
      obtain ⟨d, hd⟩ : ∃ d, d = adr l k := ⟨_, rfl⟩
      rw [← hd] at hc0
      have Hd := Lib.hid hd
      clear hd
      by_cases hda : d = a
      · subst hda
        go_wp2
        go_ret
        exact ⟨_, rfl, .inl ⟨k, _, l[k]'Hkl.out, Ho.out, List.getElem?_eq_getElem Hkl.out, Hd.out.symm, by rw [Hd.out]; exact find_adr l k Hkl.out, rfl⟩, rfl⟩
      · have hb : (d == a) = false := by rw [beq_eq_false_iff_ne]; exact hda
        go_wp2
        go_round
        case rel => exact ⟨k + 1, by omega, by go_num, fun j hj => by
          by_cases hjk : j = k
          · subst hjk; rw [← Hd.out]; exact hda
          · exact HNe.out j (by omega)⟩
        case measure => simp [intOf]; omega
    · have Hnone := Lib.hid (findOb_none (l := l) (a := a) (fun j hj => HNe.out j (by have := Hn.out; omega)))
      go_wp2
      go_ret
      exact ⟨_, rfl, .inr ⟨Hnone.out, rfl⟩, rfl⟩
end Go.Proofs.Ytniifefmjdjebaa
