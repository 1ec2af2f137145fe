/- Walks: the document's arena: Flip, Make. -/
import Derived.Test.YtniifefmjdjebaaF5
namespace Go.Proofs.Ytniifefmjdjebaa
open Go.RowKit
set_option linter.unusedVariables false
set_option linter.unusedSimpArgs false

theorem und105 : Try.prog.underlying 105 = some (.slice 113) := by kernel_rfl
theorem info113 : (Try.prog.info? 113).map (fun i => (i.zero, i.size, i.bytes)) = some (some (.pointer none), 1, 8) := by kernel_rfl
theorem RHalf.zeroed {w : World} {v : Value} {hs : List OH} {l : List Ob} {tt : Nat → Int} (h : RHalf w v hs l tt) (ap : hs.Pairwise HApart) {i : Nat} {o : OH} (ho : hs[i]? = some o) :
    RHalf (w.setCell ⟨o.1, 3, none⟩ (.int .i64 0)) v hs l (fun j => if j = i then 0 else tt j) := by
  have hf : Fr (fun k => k = o.1) w (w.setCell ⟨o.1, 3, none⟩ (.int .i64 0)) := Fr.setCell w _ _ rfl
  obtain ⟨i0, x0, hi0, _, hc0⟩ := h.at (List.mem_of_getElem? ho)
  have hvs : ∀ o' ∈ hs, ∀ k, o'.2.ownBlock = some k → k ≠ o.1 := fun o' ho' k hk e => by
    obtain ⟨_, _, _, _, hc⟩ := h.at ho'
    obtain ⟨cur, hb⟩ := row_cells hc.row hk
    exact absurd (blk_ty hc0.cells (e ▸ hb)) (by decide)
  refine ⟨hf.row h.row (fun k hk e => ?_), fun j o' x' ho' hx' => ?_⟩
  · obtain ⟨cur, hb⟩ := row_cells h.row hk
    exact absurd (blk_ty hc0.cells (e ▸ hb)) (by decide)
  · by_cases hji : j = i
    · subst hji
      rw [ho] at ho'
      obtain rfl := Option.some.inj ho'
      rw [if_pos rfl]
      have hoc := h.obs j _ x' ho hx'
      refine ⟨?_, hf.row hoc.row (fun k hk e => hvs _ (List.mem_of_getElem? ho) k hk e)⟩
      rw [heap_setCell_same w o.1 3 _ 116 (.int .i64 0) hoc.cells]
      rfl
    · rw [if_neg hji]
      exact (h.obs j o' x' ho' hx').keep hf (fun e => (apart_at ap (Ne.symm hji) ho ho').1 e.symm) (fun k hk e => hvs o' (List.mem_of_getElem? ho') k hk e)
set_option maxRecDepth 100000 in
set_option maxHeartbeats 1000000 in
theorem refFlip_any (q : Nat) (S : Nat → Prop) (s : AS) (w : World) (h : IsRef w q S s) (hg : s.Good) :
    Calls Try.prog 72 #[.pointer (some ⟨q, 0, none⟩)] w fun e w' => e = .returned (.tuple #[]) ∧ TurnedR w w' q S ⟨[], s.used, fun _ => none, s.semi⟩ := by
  obtain ⟨vl, va, hl, ha, tl, h1, h2⟩ := h
  have hll := len_le_tot s.used
  have hsm := hg.small
  have H := Lib.hid (And.intro h1 h2)
  clear hg
  obtain ⟨n, hn⟩ : ∃ n, n = s.used.length := ⟨_, rfl⟩
  have Hn := Lib.hid hn
  rw [← hn] at hll
  clear hn
  obtain ⟨av, cv, hv⟩ := row_form H.out.1.used.row
  rw [← Hn.out] at hv
  subst hv
  have c2 := blk_cell h1.top 2
  simp only [List.getElem?_toArray, List.getElem?_cons_succ, List.getElem?_cons_zero] at c2
  have c3 := blk_cell h1.top 3
  simp only [List.getElem?_toArray, List.getElem?_cons_succ, List.getElem?_cons_zero] at c3
  have fz : ∀ j, w.frozen? ⟨q, j, none⟩ = false := fun j => blk_free h1.top j
  clear h1 h2
  go_enter Try.func72, Try.ntmps72
  go_wp2
  have hf0 : Fr S w (w.setCell ⟨q, 3, none⟩ (.slice av n cv)) := Fr.setCell w _ _ ((H.out.2 q).2 (.inl rfl))
  have hst : (w.setCell ⟨q, 3, none⟩ (.slice av n cv)).heap[q]? = some (.cells #[.int .i64 s.semi, .int .i64 (tot s.used : Nat), .slice av n cv, .slice av n cv] 107 (0, 0)) ∧ RHalf (w.setCell ⟨q, 3, none⟩ (.slice av n cv)) (.slice av n cv) hl s.used (fun i => if i < 0 then 0 else tl i) := by
    refine ⟨by rw [heap_setCell_same w q 3 _ 107 _ H.out.1.top]; rfl, ?_⟩
    have hf1 : Fr (fun k => k = q) w (w.setCell ⟨q, 3, none⟩ (.slice av n cv)) := Fr.setCell w _ _ rfl
    have := H.out.1.used.keep hf1 (fun k hk e => H.out.1.row_ne.1 (e ▸ hk)) (fun o ho => ⟨(H.out.1.ob_ne (List.mem_append_left _ ho)).1, fun k hk => (H.out.1.vs_ne (List.mem_append_left _ ho) hk).1⟩)
    simpa using this
  have HS := Lib.hid (And.intro hf0 hst)
  clear hf0 hst
  obtain ⟨w1, hw1⟩ : ∃ w1, w1 = w.setCell ⟨q, 3, none⟩ (.slice av n cv) := ⟨_, rfl⟩
  rw [← hw1] at HS ⊢
  clear hw1 c2 c3 fz
  go_loopw [2] (fun i wr => ∃ k : Nat, k ≤ n ∧ i = .int .i64 k ∧ Fr S w wr ∧ wr.heap[q]? = some (.cells #[.int .i64 s.semi, .int .i64 (tot s.used : Nat), .slice av n cv, .slice av n cv] 107 (0, 0)) ∧ RHalf wr (.slice av n cv) hl s.used (fun i => if i < k then 0 else tl i)) (fun i _ => (n - intOf i).toNat)
  case atStart => exact ⟨0, by omega, rfl, HS.out⟩
  case round =>
    obtain ⟨k, hk, rfl, r1, r2, r3⟩ := hrel
    have HK := Lib.hid (And.intro r1 (And.intro r2 r3))
    have c1 := blk_cell r2 1
    have c2 := blk_cell r2 2
    have c3 := blk_cell r2 3
    simp only [List.getElem?_toArray, List.getElem?_cons_succ, List.getElem?_cons_zero] at c1 c2 c3
    by_cases hlt : k < n
    · have hr := r3.row
      rw [← Hn.out] at hr
      obtain ⟨g, c, _, e1, _, _, _⟩ := row_addr hr (by omega)
      simp only [Value.slice.injEq, true_and] at e1
      obtain ⟨rfl, rfl⟩ := e1
      have hkl : k < s.used.length := by rw [← Hn.out]; exact hlt
      have hkh : k < hl.length := by rw [r3.length]; exact hkl
      obtain ⟨o, ho⟩ : ∃ o, o = hl[k] := ⟨_, rfl⟩
      have ho' : hl[k]? = some o := by rw [List.getElem?_eq_getElem hkh, ho]
      have hc := row_cell hr (j := k) (u := optr o) (by rw [List.getElem?_map, ho']; rfl)
      have hob := r3.obs k o _ ho' (List.getElem?_eq_getElem hkl)
      have hc0 := blk_cell hob.cells 3
      simp only [List.getElem?_toArray, List.getElem?_cons_succ, List.getElem?_cons_zero] at hc0
      have hfz : ∀ j, wr.frozen? ⟨o.1, j, none⟩ = false := fun j => blk_free hob.cells j
      have hne := (H.out.1.ob_ne (List.mem_append_left ha (List.mem_of_getElem? ho'))).1
      have HZ := Lib.hid (And.intro (r3.zeroed (List.pairwise_append.1 H.out.1.apart).1 ho') (And.intro hne (show S o.1 from (H.out.2 _).2 (.inr (.inr (.inr ⟨o, List.mem_append_left _ (List.mem_of_getElem? ho'), .inl rfl⟩))))))
      obtain ⟨ob, ov⟩ := o
      simp only [optr] at hc hc0 hfz HZ
      clear hr hkl hkh hob ho ho' r1 r2 r3 hne c1
      go_wp2
      go_roundw
      case rel =>
        have hf : Fr (fun j => j = ob) wr (wr.setCell ⟨ob, 3, none⟩ (.int .i64 0)) := Fr.setCell wr _ _ rfl
        refine ⟨k + 1, by omega, by go_num, HK.out.1.trans hf (fun _ h => h) (fun i _ e => e ▸ HZ.out.2.2), hf.heap HK.out.2.1 (fun e => HZ.out.2.1 e.symm), ?_⟩
        have h5 := HZ.out.1
        refine ⟨h5.row, fun j o x h1 h2 => ?_⟩
        have h6 := h5.obs j o x h1 h2
        rw [show (if j < k + 1 then (0 : Int) else tl j) = (if j = k then 0 else if j < k then 0 else tl j) from by
          by_cases h7 : j = k
          · subst h7; rw [if_pos (by omega), if_pos rfl]
          · rw [if_neg h7]
            by_cases h8 : j < k
            · rw [if_pos (by omega), if_pos h8]
            · rw [if_neg (by omega), if_neg h8]]
        exact h6
      case measure => simp [intOf]; omega
    · obtain rfl : k = n := by omega
      have hfz : ∀ j, wr.frozen? ⟨q, j, none⟩ = false := fun j => blk_free r2 j
      have HZ := Lib.hid hfz
      clear r1 r2 r3
      go_wp2
      go_end0
      have hf : Fr (fun j => j = q) wr ((wr.setCell ⟨q, 2, none⟩ (.slice none 0 0)).setCell ⟨q, 1, none⟩ (.int .i64 0)) := (Fr.setCell (S := fun j => j = q) wr ⟨q, 2, none⟩ _ rfl).trans (Fr.setCell (S := fun j => j = q) _ ⟨q, 1, none⟩ _ rfl) (fun _ h => h) (fun _ _ h => h)
      have hSq : S q := (H.out.2 q).2 (.inl rfl)
      have hin : ∀ o ∈ hl, o ∈ hl ++ ha := fun o ho => List.mem_append_left _ ho
      refine ⟨rfl, fun j => RBlocks q nilRow (.slice av k cv) ([] ++ hl) j, ⟨nilRow, .slice av k cv, [], hl, fun _ => 0, ⟨?_, ⟨World.ownsRow_nil _ _ _ _, fun i o x hi => by simp at hi⟩, ?_, ?_, by simp [nilRow, Value.ownBlock], by simp⟩, fun _ => Iff.rfl⟩, HK.out.1.trans hf (fun _ h => h) (fun i _ e => e ▸ hSq), fun j hj => .inl ?_⟩
      · have h1 := heap_setCell_same wr q 2 _ 107 (.slice none 0 0) HK.out.2.1
        rw [heap_setCell_same _ q 1 _ 107 (.int .i64 0) h1]
        rfl
      · have h3 := HK.out.2.2.keep hf (fun j hj e => H.out.1.row_ne.1 (e ▸ hj)) (fun o ho => ⟨(H.out.1.ob_ne (hin o ho)).1, fun j hj => (H.out.1.vs_ne (hin o ho) hj).1⟩)
        refine ⟨h3.row, fun i o x hi hx => ?_⟩
        have h4 := h3.obs i o x hi hx
        rw [if_pos (by rw [Hn.out]; exact (List.getElem?_eq_some_iff.1 hx).1)] at h4
        exact h4
      · exact (List.pairwise_append.1 H.out.1.apart).1
      · refine (H.out.2 j).2 ?_
        rcases hj with h1 | h1 | h1 | ⟨o, ho, h1⟩
        · exact .inl h1
        · simp [nilRow, Value.ownBlock] at h1
        · exact .inr (.inl h1)
        · exact .inr (.inr (.inr ⟨o, hin o (by simpa using ho), h1⟩))
/-- The used half has turned, the half ahead stands where it stood. -/
def TurnedM (w w' : World) (q : Nat) (vl va : Value) (hl ha : List OH) (s' : AS) : Prop := ∃ vl' hl' tl', IsRef' w' q vl' va hl' ha tl' s' ∧ Fr (RBlocks q vl va (hl ++ ha)) w w' ∧ ∀ k, RBlocks q vl' va (hl' ++ ha) k → RBlocks q vl va (hl ++ ha) k ∨ w.heap.size ≤ k
set_option maxRecDepth 100000 in
set_option maxHeartbeats 1000000 in
theorem refMake'_any (q : Nat) (kind n : Int) (vl va : Value) (hl ha : List OH) (tl : Nat → Int) (s : AS) (w : World) (h : IsRef' w q vl va hl ha tl s) (hg : s.Good) :
    Calls Try.prog 70 #[.pointer (some ⟨q, 0, none⟩), .int .i64 kind, .int .i64 n] w fun e w' => e = .returned (.tuple #[.int .i64 (s.makeA n), .int .i64 (s.makeE n)]) ∧ TurnedM w w' q vl va hl ha (s.make kind n) := by
  obtain ⟨i2, hi2, hz2, hs2, hb2⟩ := info_parts info2
  obtain ⟨i113, hi113, hz113, hs113, hb113⟩ := info_parts info113
  have H := Lib.hid (And.intro h hg); clear h hg
  have H0 := Lib.hid (show IsRef w q (RBlocks q vl va (hl ++ ha)) s from ⟨vl, va, hl, ha, tl, H.out.1, fun _ => Iff.rfl⟩)
  by_cases n0 : n < 0
  · have He := Lib.hid (show s.makeE n = 1 from if_pos (.inl n0))
    go_enter Try.func70, Try.ntmps70
    go_wp2
    go_ret2
    exact ⟨by unfold AS.makeA; rw [He.out]; rfl, vl, hl, tl, by unfold AS.make; rw [He.out]; exact H.out.1, Fr.refl _ _, fun _ h => .inl h⟩
  · by_cases n1 : n > 65536
    · have He := Lib.hid (show s.makeE n = 1 from if_pos (.inr n1))
      go_enter Try.func70, Try.ntmps70
      go_wp2
      go_ret2
      exact ⟨by unfold AS.makeA; rw [He.out]; rfl, vl, hl, tl, by unfold AS.make; rw [He.out]; exact H.out.1, Fr.refl _ _, fun _ h => .inl h⟩
    · by_cases hr : roomB s n = true
      · have He := Lib.hid (show s.makeE n = 0 from by unfold AS.makeE; rw [if_neg (by omega), if_pos hr])
        have HRm := Lib.hid hr
        go_enter Try.func70, Try.ntmps70
        go_wp2_with fail
        refine (refRoom_any q n _ s _ H0.out H.out.2).mono ?_
        rw [hr]
        rintro e w1 ⟨rfl, nd, hw1⟩
        clear hr
        have h1 : IsRef' w1 q vl va hl ha tl s := by rw [hw1]; exact H.out.1.keep (T := fun _ => False) (Fr.drewN _ w nd) (fun _ _ h => h)
        have HW := Lib.hid (show Fr (RBlocks q vl va (hl ++ ha)) w w1 ∧ w1.heap.size = w.heap.size from by rw [hw1]; exact ⟨Fr.drewN _ w nd, rfl⟩)
        clear hw1
        have HR := Lib.hid (And.intro h1 (show ∀ k, RBlocks q vl va (hl ++ ha) k ↔ RBlocks q vl va (hl ++ ha) k from fun _ => Iff.rfl))
        have c1 := blk_cell h1.top 1
        have c2 := blk_cell h1.top 2
        simp only [List.getElem?_toArray, List.getElem?_cons_succ, List.getElem?_cons_zero] at c1 c2
        have fz : ∀ j, w1.frozen? ⟨q, j, none⟩ = false := fun j => blk_free h1.top j
        have hsm := H.out.2.small
        clear h1
        obtain ⟨m, rfl⟩ := Int.eq_ofNat_of_zero_le (show 0 ≤ n by omega)
        have hmk : ∀ W : World, (Instr.makeSlice 38 (.int .i64 (m : Int)) (.int .i64 (m : Int))).run Try.prog W = .ok (.slice (some ⟨W.heap.size, 0, none⟩) m m) (W.alloc (.cells (madeCells #[.int .i64 0] m) 2)) := fun W => by
          have h5 := run_make (P := Try.prog) W 38 2 i2 (.int .i64 0) und38 hi2 hz2 .i64 .i64 m m (by omega) (Int.le_refl _) (by rw [hb2]; omega) (by omega)
          simp only [Int.toNat_natCast, hs2, Nat.mul_one] at h5
          exact h5
        have c1b : w1.drew.cell? ⟨q, 1, none⟩ = some (.int .i64 (tot s.used : Nat)) := c1
        have c1a : (w1.drew.alloc (.cells (madeCells #[.int .i64 0] m) 2)).cell? ⟨q, 1, none⟩ = some (.int .i64 (tot s.used : Nat)) := (Fr.alloc (fun _ => False) _ _).cell c1 id
        have c1d : (w1.alloc (.cells (madeCells #[.int .i64 0] m) 2)).cell? ⟨q, 1, none⟩ = some (.int .i64 (tot s.used : Nat)) := (Fr.alloc (fun _ => False) _ _).cell c1 id
        have c1e : (w1.alloc (.cells (madeCells #[.int .i64 0] m) 2)).drew.cell? ⟨q, 1, none⟩ = some (.int .i64 (tot s.used : Nat)) := c1d
        go_wp2_with fail
        go_region
        have f12 : Fr (fun _ => False) w1 ((w1.alloc (.cells (madeCells #[.int .i64 0] m) 2)).alloc (.cells #[.int .i64 (tot s.used + 8), .int .i64 kind, .slice (some ⟨w1.heap.size, 0, none⟩) m m, .int .i64 0] 116)).drew :=
          ((Fr.alloc (fun _ => False) w1 _).trans (Fr.alloc (fun _ => False) _ _) (fun _ h => h) (fun _ _ h => h)).trans (Fr.drew (fun _ => False) _) (fun _ h => h) (fun _ _ h => h)
        have hoc : OCell ((w1.alloc (.cells (madeCells #[.int .i64 0] m) 2)).alloc (.cells #[.int .i64 (tot s.used + 8), .int .i64 kind, .slice (some ⟨w1.heap.size, 0, none⟩) m m, .int .i64 0] 116)).drew (w1.heap.size + 1, .slice (some ⟨w1.heap.size, 0, none⟩) m m) (tot s.used + 8) ⟨kind, List.replicate m 0⟩ 0 := by
          constructor
          · have := heap_alloc_new (w1.alloc (.cells (madeCells #[.int .i64 0] m) 2)) (.cells #[.int .i64 (tot s.used + 8), .int .i64 kind, .slice (some ⟨w1.heap.size, 0, none⟩) m m, .int .i64 0] 116)
            rw [show (w1.alloc (.cells (madeCells #[.int .i64 0] m) 2)).heap.size = w1.heap.size + 1 from by simp] at this
            exact this
          · have h5 := World.ownsRow_lit (base := 0) (e := 2) (size := 1) w1 (madeCells #[.int .i64 0] m) m (Nat.zero_le _) (by unfold maxLen; omega) (by rw [size_madeCells, Nat.mul_one])
            rw [toList_madeCells_one] at h5
            have h6 := (Fr.alloc (fun _ => False) (w1.alloc (.cells (madeCells #[.int .i64 0] m) 2)) (.cells #[.int .i64 (tot s.used + 8), .int .i64 kind, .slice (some ⟨w1.heap.size, 0, none⟩) m m, .int .i64 0] 116)).row h5 (fun _ _ h => h)
            simp only [List.length_replicate, List.map_replicate]
            exact h6
        have hsz : ((w1.alloc (.cells (madeCells #[.int .i64 0] m) 2)).alloc (.cells #[.int .i64 (tot s.used + 8), .int .i64 kind, .slice (some ⟨w1.heap.size, 0, none⟩) m m, .int .i64 0] 116)).drew.heap.size = w1.heap.size + 2 := by simp
        obtain ⟨w2, hw2⟩ : ∃ w2, w2 = ((w1.alloc (.cells (madeCells #[.int .i64 0] m) 2)).alloc (.cells #[.int .i64 (tot s.used + 8), .int .i64 kind, .slice (some ⟨w1.heap.size, 0, none⟩) m m, .int .i64 0] 116)).drew := ⟨_, rfl⟩
        rw [← hw2] at f12 hoc hsz ⊢
        clear hw2 c1 c2 c1a c1b c1d c1e fz hmk
        have h2 := HR.out.1.keep f12 (fun _ _ h => h)
        have c1 := blk_cell h2.top 1
        have c2 := blk_cell h2.top 2
        simp only [List.getElem?_toArray, List.getElem?_cons_succ, List.getElem?_cons_zero] at c1 c2
        have hlen : hl.length = s.used.length := h2.used.length
        have hll := len_le_tot s.used
        have HV := Lib.hid (And.intro f12 (And.intro hoc (And.intro hsz (And.intro h2 hlen))))
        have hr := h2.used.row
        rw [← hlen] at hr hll
        have Hr := Lib.hid hr
        clear f12 hoc hsz h2 hlen hr
        obtain ⟨hn, hhn⟩ : ∃ hn, hn = hl.length := ⟨_, rfl⟩
        have Hhn := Lib.hid hhn
        rw [← hhn] at Hr hll
        obtain ⟨b, hb⟩ : ∃ b, b = w1.heap.size + 1 := ⟨_, rfl⟩
        have Hb := Lib.hid hb
        rw [← hb]
        clear hhn hb
        go_wp2_with (first | (at_builtin; refine wpList_append_own_at _ rfl _ _ 105 rfl 0 113 i113 (.pointer none) 1 8 und105 hi113 hz113 hs113 hb113 rfl (by decide) _ _ _ rfl (Hr.out.alloc _) ⟨w2.heap.size, 0, none⟩ 1 1 [.pointer (some ⟨b, 0, none⟩)] rfl rfl ?c1 ?c2 ?c3 ?c4 ?c5 ?_))
        case c1 => exact cell_one_new _ _ _
        case c2 => intro u hu; simp at hu; subst hu; rfl
        case c3 => unfold maxLen; omega
        case c4 => omega
        case c5 => exact Nat.zero_le _
        intro v7 w7 hown7 hgr7 _ hloc7
        obtain ⟨a7, k7, rfl⟩ := row_form hown7
        have hf7 : Fr (fun k => vl.ownBlock = some k) w2 w7 := Fr.of_grown (grown_trans (World.grownBy_alloc w2 _ _) hgr7) (fun k hk => hk)
        have hqv := HV.out.2.2.2.1.row_ne.1
        have htop7 := hf7.heap HV.out.2.2.2.1.top (fun e => hqv e)
        have c1' := blk_cell htop7 1
        have c2' := blk_cell htop7 2
        simp only [List.getElem?_toArray, List.getElem?_cons_succ, List.getElem?_cons_zero] at c1' c2'
        have fz' : ∀ j, w7.frozen? ⟨q, j, none⟩ = false := fun j => blk_free htop7 j
        have hob7 := hf7.heap HV.out.2.1.cells (fun e => by
          have := row_lt HR.out.1.used.row e
          omega)
        rw [← Hb.out] at hob7
        have cb := blk_cell hob7 0
        simp only [List.getElem?_toArray, List.getElem?_cons_succ, List.getElem?_cons_zero] at cb
        have hbq : b ≠ q := by
          have := (Array.getElem?_eq_some_iff.1 HR.out.1.top).1
          rw [Hb.out]; omega
        have HX := Lib.hid (And.intro hown7 (And.intro hloc7 (And.intro hf7 (And.intro htop7 hob7))))
        clear hown7 hgr7 hloc7 hf7 hqv htop7 hob7 c1 c2
        go_wp2
        go_ret2
        obtain ⟨hown7, hloc7, hf7, htop7, hob7⟩ := HX.out
        obtain ⟨f12, hoc, hsz, h2, hlen⟩ := HV.out
        have hq1 := (Array.getElem?_eq_some_iff.1 HR.out.1.top).1
        have hvlt : ∀ k, vl.ownBlock = some k → k < w1.heap.size := fun k hk => row_lt HR.out.1.used.row hk
        obtain ⟨nu, hnu⟩ : ∃ nu, nu = (tot (s.used ++ [⟨kind, List.replicate m 0⟩] : List Ob)) := ⟨_, rfl⟩
        rw [show (tot s.used : Int) + 16 + 8 * m = (nu : Int) from by rw [hnu, tot_append]; simp [tot, Ob.size]; omega]
        have hf8 : Fr (fun j => j = q) w7 ((w7.setCell ⟨q, 2, none⟩ (.slice a7 (hn + 1) k7)).setCell ⟨q, 1, none⟩ (.int .i64 nu)) :=
          (Fr.setCell (S := fun j => j = q) w7 ⟨q, 2, none⟩ _ rfl).trans (Fr.setCell (S := fun j => j = q) _ ⟨q, 1, none⟩ _ rfl) (fun _ h => h) (fun _ _ h => h)
        have htop8 : ((w7.setCell ⟨q, 2, none⟩ (.slice a7 (hn + 1) k7)).setCell ⟨q, 1, none⟩ (.int .i64 nu)).heap[q]? = some (.cells #[.int .i64 s.semi, .int .i64 nu, .slice a7 (hn + 1) k7, va] 107 (0, 0)) := by
          have h1 := heap_setCell_same w7 q 2 _ 107 (.slice a7 (hn + 1) k7) htop7
          rw [heap_setCell_same _ q 1 _ 107 (.int .i64 nu) h1]
          rfl
        obtain ⟨w8, hw8⟩ : ∃ w8, w8 = (w7.setCell ⟨q, 2, none⟩ (.slice a7 (hn + 1) k7)).setCell ⟨q, 1, none⟩ (.int .i64 nu) := ⟨_, rfl⟩
        rw [← hw8] at hf8 htop8 ⊢
        have hloc8 : ∀ k, (Value.slice a7 (hn + 1) k7).ownBlock = some k → vl.ownBlock = some k ∨ w1.heap.size ≤ k := fun k hk => by
          rcases hloc7 with h4 | h4
          · exact .inl (h4 ▸ hk)
          · rw [h4] at hk; simp at hk; right; omega
        have hf18 : Fr (fun k => k = q ∨ vl.ownBlock = some k) w1 w8 :=
          (f12.trans (U := fun k => k = q ∨ vl.ownBlock = some k) hf7 (fun _ h => h.elim) (fun _ _ h => .inr h)).trans hf8 (fun _ h => h) (fun _ _ h => .inl h)
        have hf28 : Fr (fun k => k = q ∨ vl.ownBlock = some k) w2 w8 := hf7.trans hf8 (fun _ h => .inr h) (fun _ _ h => .inl h)
        have hrow8 : w8.ownsRow 0 113 1 (.slice a7 (hn + 1) k7) (hl.length + 1) (hl.map optr ++ [optr (b, .slice (some ⟨w1.heap.size, 0, none⟩) m m)]) := by
          rw [← Hhn.out]
          exact hf8.row hown7 (fun k hk e => by
            rcases hloc8 k hk with h1 | h1
            · exact h2.row_ne.1 (e ▸ h1)
            · omega)
        have hoc8 : OCell w8 (b, .slice (some ⟨w1.heap.size, 0, none⟩) m m) (tot s.used + 8) ⟨kind, List.replicate m 0⟩ 0 := by
          rw [Hb.out]
          refine hoc.keep hf28 (fun e => ?_) (fun k hk e => ?_)
          · rcases e with e | e
            · simp only at e; omega
            · have := hvlt _ e; simp only at this; omega
          · simp [Value.ownBlock] at hk
            rcases e with e | e
            · omega
            · have := hvlt _ e; omega
        have hm := HR.out.1.made (t := 0) hf18 (by rw [← hnu]; exact htop8) hrow8 hloc8 hoc8 (by rw [Hb.out]; omega) (fun k hk => by simp [Value.ownBlock] at hk; omega)
        refine ⟨by unfold AS.makeA; rw [He.out]; rfl, _, _, _, by unfold AS.make; rw [He.out, if_pos rfl]; simpa using hm, ?_, ?_⟩
        · exact HW.out.1.trans hf18 (fun _ h => h) (fun i _ e => id (e.elim .inl (fun e => .inr (.inl e))))
        · rintro k (e | e | e | ⟨o, ho, e⟩)
          · exact .inl (id (.inl e))
          · rcases hloc8 k e with h1 | h1
            · exact .inl (id (.inr (.inl h1)))
            · right; have := HW.out.2; omega
          · exact .inl (id (.inr (.inr (.inl e))))
          · have hsz1 := HW.out.2
            rcases List.mem_append.1 ho with ho | ho
            · rcases List.mem_append.1 ho with ho | ho
              · exact .inl (id (.inr (.inr (.inr ⟨o, List.mem_append_left _ ho, e⟩))))
              · simp only [List.mem_singleton] at ho
                subst ho
                right
                rcases e with e | e
                · simp only at e; have := Hb.out; omega
                · simp [Value.ownBlock] at e; omega
            · exact .inl (id (.inr (.inr (.inr ⟨o, List.mem_append_right _ ho, e⟩))))
      · have He := Lib.hid (show s.makeE n = 7 from by unfold AS.makeE; rw [if_neg (by omega), if_neg hr])
        have hr' : roomB s n = false := by simpa using hr
        clear hr
        go_enter Try.func70, Try.ntmps70
        go_wp2_with fail
        refine (refRoom_any q n _ s _ H0.out H.out.2).mono ?_
        rw [hr']
        rintro e w1 ⟨rfl, nd, rfl⟩
        clear hr'
        go_wp2
        go_ret2
        exact ⟨by unfold AS.makeA; rw [He.out]; rfl, vl, hl, tl, by unfold AS.make; rw [He.out]; exact H.out.1.keep (T := fun _ => False) (Fr.drewN _ w nd) (fun _ _ h => h), Fr.drewN _ w nd, fun _ h => .inl h⟩
theorem refMake_any (q : Nat) (kind n : Int) (S : Nat → Prop) (s : AS) (w : World) (h : IsRef w q S s) (hg : s.Good) :
    Calls Try.prog 70 #[.pointer (some ⟨q, 0, none⟩), .int .i64 kind, .int .i64 n] w fun e w' => e = .returned (.tuple #[.int .i64 (s.makeA n), .int .i64 (s.makeE n)]) ∧ TurnedR w w' q S (s.make kind n) := by
  obtain ⟨vl, va, hl, ha, tl, h1, h2⟩ := h
  refine (refMake'_any q kind n vl va hl ha tl s w h1 hg).mono ?_
  rintro e w' ⟨rfl, vl', hl', tl', h3, h4, h5⟩
  exact ⟨rfl, _, ⟨vl', va, hl', ha, tl', h3, fun _ => Iff.rfl⟩, h4.mono (fun k _ hk => (h2 k).2 hk), fun k hk => (h5 k hk).imp (h2 k).2 id⟩
end Go.Proofs.Ytniifefmjdjebaa
