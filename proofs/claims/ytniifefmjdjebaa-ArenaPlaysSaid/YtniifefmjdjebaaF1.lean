/- Walks: the document's arena, methods that only read. -/
import Derived.Test.YtniifefmjdjebaaF0
namespace Go.Proofs.Ytniifefmjdjebaa
open Go.RowKit
set_option linter.unusedVariables false
set_option linter.unusedSimpArgs false

theorem AS.Good.small {s : AS} (h : s.Good) : tot s.used ≤ 1048576 := Nat.le_trans h.fits h.hi
set_option maxRecDepth 100000 in
set_option maxHeartbeats 400000 in
theorem refAt_any (q : Nat) (a : Int) (vl va : Value) (hl ha : List OH) (tl : Nat → Int) (s : AS) (w : World) (h : IsRef' w q vl va hl ha tl s) (hg : s.Good) :
    Calls Try.prog 76 #[.pointer (some ⟨q, 0, none⟩), .int .i64 a] w fun e w' => ∃ u, e = .returned u ∧ FoundAt hl s.used a u ∧ w' = w := by
  have c2 := blk_cell h.top 2
  simp only [List.getElem?_toArray, List.getElem?_cons_succ, List.getElem?_cons_zero] at c2
  have H := Lib.hid (And.intro h hg.small); clear h hg
  go_enter Try.func76, Try.ntmps76
  go_wp2_with fail
  refine (find_any vl hl s.used tl a _ H.out.1.used H.out.2).mono ?_
  rintro e w1 ⟨u, rfl, hf, rfl⟩
  have HF := Lib.hid hf; clear hf
  go_wp2
  go_ret
  exact ⟨u, rfl, HF.out, rfl⟩
set_option maxRecDepth 100000 in
set_option maxHeartbeats 1000000 in
theorem refGet_any (q : Nat) (a n : Int) (S : Nat → Prop) (s : AS) (w : World) (h : IsRef w q S s) (hg : s.Good) :
    Calls Try.prog 74 #[.pointer (some ⟨q, 0, none⟩), .int .i64 a, .int .i64 n] w fun e w' => e = .returned (.tuple #[.int .i64 (getV (findOb 0 s.used a) n), .int .i64 (slotE (findOb 0 s.used a) n)]) ∧ ∃ k, w' = w.drewN k := by
  obtain ⟨vl, va, hl, ha, tl, h1, h2⟩ := h
  have H := Lib.hid (And.intro h1 hg); clear h1 hg h2
  go_enter Try.func74, Try.ntmps74
  go_wp2_with fail
  refine (refAt_any q a vl va hl ha tl s _ H.out.1 H.out.2).mono ?_
  rintro e w1 ⟨u, rfl, hf, rfl⟩
  rcases hf with ⟨j, o, x, hj, hx, hadr, hfd, rfl⟩ | ⟨hfd, rfl⟩
  · have hob := H.out.1.used.obs j o x hj hx
    have hok := H.out.2.used x (List.mem_of_getElem? hx)
    have hc2 := blk_cell hob.cells 2
    simp only [List.getElem?_toArray, List.getElem?_cons_succ, List.getElem?_cons_zero] at hc2
    have hr := hob.row
    have hvl := hok.2.1
    obtain ⟨ob, ov⟩ := o
    simp only [optr] at hc2 hr ⊢
    obtain ⟨av, cv, rfl⟩ := row_form hr
    have Hfd := Lib.hid hfd
    clear hob hok hj hx hadr hfd
    by_cases hbad : n < 0 ∨ n ≥ x.vs.length
    · have Hv := Lib.hid (show getV (some x) n = 0 ∧ slotE (some x) n = 1 from ⟨if_pos hbad, if_pos hbad⟩)
      clear hr
      rcases Classical.em (n < 0) with h0 | h0
      · clear hbad
        go_wp2
        go_ret2
        exact ⟨by rw [Hfd.out, Hv.out.1, Hv.out.2]; rfl, 0, rfl⟩
      · have h3 : n ≥ x.vs.length := hbad.elim (fun h => absurd h h0) id
        clear hbad
        go_wp2
        go_ret2
        exact ⟨by rw [Hfd.out, Hv.out.1, Hv.out.2]; rfl, 0, rfl⟩
    · have n0 : 0 ≤ n := by omega
      have n1 : n < x.vs.length := by omega
      obtain ⟨i, rfl⟩ := Int.eq_ofNat_of_zero_le n0
      obtain ⟨g, c, _, e1, _, _, _⟩ := row_addr hr (by omega)
      simp only [Value.slice.injEq, true_and] at e1
      obtain ⟨rfl, rfl⟩ := e1
      have hcell := row_int hr (j := i) (by omega)
      have Hv := Lib.hid (show getV (some x) i = x.vs[i]?.getD 0 ∧ slotE (some x) i = 0 from ⟨by
        show (if (i : Int) < 0 ∨ (i : Int) ≥ x.vs.length then 0 else x.vs.getD (i : Int).toNat 0) = _
        rw [if_neg hbad, List.getD_eq_getElem?_getD]; rfl, if_neg hbad⟩)
      obtain ⟨y, hy⟩ : ∃ y, y = x.vs[i]?.getD 0 := ⟨_, rfl⟩
      rw [← hy] at hcell Hv
      clear hy hr hbad
      go_wp2
      go_ret2
      exact ⟨by rw [Hfd.out, Hv.out.1, Hv.out.2]; rfl, 0, rfl⟩
  · have Hfd := Lib.hid hfd
    clear hfd
    go_wp2
    go_ret2
    exact ⟨by rw [Hfd.out]; rfl, 0, rfl⟩
set_option maxRecDepth 100000 in
set_option maxHeartbeats 400000 in
theorem refRoom_any (q : Nat) (n : Int) (S : Nat → Prop) (s : AS) (w : World) (h : IsRef w q S s) (hg : s.Good) :
    Calls Try.prog 40 #[.pointer (some ⟨q, 0, none⟩), .int .i64 n] w fun e w' => e = .returned (.bool (roomB s n)) ∧ ∃ k, w' = w.drewN k := by
  obtain ⟨vl, va, hl, ha, tl, h1, h2⟩ := h
  have c0 := blk_cell h1.top 0
  have c7 := blk_cell h1.top 1
  simp only [List.getElem?_toArray, List.getElem?_cons_succ, List.getElem?_cons_zero] at c0 c7
  have hs1 := hg.small
  have hs2 := hg.hi
  clear h1 h2 hg
  by_cases n0 : 0 ≤ n
  · by_cases n1 : n ≤ 65536
    · by_cases n2 : 16 + 8 * n ≤ (s.semi : Int) - tot s.used
      · have Hr := Lib.hid (roomB_true ⟨n0, n1, n2⟩)
        go_enter Try.func40, Try.ntmps40
        go_wp2
        go_quiet (fail)
        go_wp2
        go_ret
        exact ⟨by rw [Hr.out]; rfl, _, rfl⟩
      · have Hr := Lib.hid (roomB_false (s := s) (n := n) (fun h => n2 h.2.2))
        have hb : decide (16 + 8 * n ≤ (s.semi : Int) - tot s.used) = false := by simpa using n2
        go_enter Try.func40, Try.ntmps40
        go_wp2
        go_quiet (fail)
        go_wp2
        go_ret
        exact ⟨by rw [Hr.out]; rfl, _, rfl⟩
    · have Hr := Lib.hid (roomB_false (s := s) (n := n) (fun h => n1 h.2.1))
      have hb : decide (n ≤ 65536) = false := by simpa using n1
      go_enter Try.func40, Try.ntmps40
      go_wp2
      go_quiet (fail)
      go_wp2
      go_ret
      exact ⟨by rw [Hr.out]; rfl, _, rfl⟩
  · have Hr := Lib.hid (roomB_false (s := s) (n := n) (fun h => n0 h.1))
    have hb : decide (0 ≤ n) = false := by simpa using n0
    go_enter Try.func40, Try.ntmps40
    go_wp2
    go_quiet (fail)
    go_wp2
    go_ret
    exact ⟨by rw [Hr.out]; rfl, _, rfl⟩
/-- The first k addresses. -/
def addrsK (l : List Ob) (k : Nat) : List Value := ((addrs 0 l).take k).map (Value.int .i64)
theorem addrsK_length (l : List Ob) (k : Nat) (h : k ≤ l.length) : (addrsK l k).length = k := by simp [addrsK, addrs_length]; omega
theorem addrsK_succ (l : List Ob) (k : Nat) (h : k < l.length) : addrsK l k ++ [.int .i64 (adr l k)] = addrsK l (k + 1) := by
  unfold addrsK
  have hl : k < (addrs 0 l).length := by rw [addrs_length]; exact h
  rw [List.take_succ_eq_append_getElem hl, List.map_append]
  have := addrs_adr l k h
  rw [List.getElem?_eq_getElem hl] at this
  simp at this
  rw [this]; rfl
theorem addrsK_all (l : List Ob) : addrsK l l.length = (addrs 0 l).map (Value.int .i64) := by
  unfold addrsK; rw [List.take_of_length_le (by rw [addrs_length]; omega)]
set_option maxRecDepth 100000 in
set_option maxHeartbeats 1000000 in
theorem refAll_any (q : Nat) (S : Nat → Prop) (s : AS) (w : World) (h : IsRef w q S s) (hg : s.Good) :
    Calls Try.prog 41 #[.pointer (some ⟨q, 0, none⟩)] w fun e w' => NewRow w w' 2 ((addrs 0 s.used).map (Value.int .i64)) e := by
  obtain ⟨vl, va, hl, ha, tl, h1, h2⟩ := h
  obtain ⟨i2, hi2, hz2, hs2, hb2⟩ := info_parts info2
  have hll := len_le_tot s.used
  have hsm := hg.small
  have H := Lib.hid h1; clear h1 h2 hg
  obtain ⟨n, hn⟩ : ∃ n, n = s.used.length := ⟨_, rfl⟩
  have Hn := Lib.hid hn
  rw [← hn] at hll
  clear hn
  obtain ⟨av, cv, hv⟩ := row_form H.out.used.row
  rw [← Hn.out] at hv
  subst hv
  go_enter Try.func41, Try.ntmps41
  go_wp2
  go_loopw [3, 4] (fun v i wr => ∃ k : Nat, k ≤ n ∧ i = .int .i64 k ∧ wr.ownsRow 0 2 1 v k (addrsK s.used k) ∧ Fr (fun _ => False) w wr ∧ ∀ g, v.ownBlock = some g → w.heap.size ≤ g) (fun _ i _ => (n - intOf i).toNat)
  case atStart => exact ⟨0, by omega, rfl, World.ownsRow_nil _ _ _ _, Fr.refl _ _, by simp [Value.ownBlock]⟩
  case round =>
    obtain ⟨k, hk, rfl, hown, hfr, hnew⟩ := hrel
    have HK := Lib.hid (And.intro hown (And.intro hfr hnew)); clear hown hfr hnew
    have hi := H.out.keep (T := fun _ => False) HK.out.2.1 (fun _ _ h => h)
    have c2 := blk_cell hi.top 2
    simp only [List.getElem?_toArray, List.getElem?_cons_succ, List.getElem?_cons_zero] at c2
    by_cases hlt : k < n
    · have hr := hi.used.row
      rw [← Hn.out] at hr
      obtain ⟨g, c, _, e1, _, _, _⟩ := row_addr hr (by omega)
      simp only [Value.slice.injEq, true_and] at e1
      obtain ⟨rfl, rfl⟩ := e1
      have hkl : k < s.used.length := by rw [← Hn.out]; exact hlt
      have hkh : k < hl.length := by rw [hi.used.length]; exact hkl
      obtain ⟨o, ho⟩ : ∃ o, o = hl[k] := ⟨_, rfl⟩
      have ho' : hl[k]? = some o := by rw [List.getElem?_eq_getElem hkh, ho]
      have hc := row_cell hr (j := k) (u := optr o) (by rw [List.getElem?_map, ho']; rfl)
      have hob := hi.used.obs k o _ ho' (List.getElem?_eq_getElem hkl)
      have hc0 := blk_cell hob.cells 0
      simp only [List.getElem?_toArray, List.getElem?_cons_succ, List.getElem?_cons_zero] at hc0
      have Hk1 := Lib.hid (addrsK_succ s.used k hkl)
      obtain ⟨ob, ov⟩ := o
      simp only [optr] at hc hc0
      clear hr hkl hkh hob ho ho' hi
      obtain ⟨d, hd⟩ : ∃ d, d = adr s.used k := ⟨_, rfl⟩
      rw [← hd] at hc0 Hk1
      clear hd
      go_wp2_with (first | (at_builtin; refine wpList_append_own_at _ rfl _ _ 38 rfl 0 2 i2 (.int .i64 0) 1 8 und38 hi2 hz2 hs2 hb2 rfl (by decide) _ _ _ rfl (HK.out.1.alloc _) ⟨wr.heap.size, 0, none⟩ 1 1 [.int .i64 d] rfl rfl ?c1 ?c2 ?c3 ?c4 ?c5 ?_))
      case c1 => exact cell_one_new _ _ _
      case c2 => intro u hu; simp at hu; subst hu; rfl
      case c3 => unfold maxLen; omega
      case c4 => omega
      case c5 => exact Nat.zero_le _
      intro v7 w7 hown7 hgr7 _ hloc7
      have HG := Lib.hid (And.intro hown7 (And.intro hgr7 hloc7))
      clear hown7 hgr7 hloc7
      go_wp2
      go_roundw
      case rel =>
        have hf1 : Fr (fun k => u3.ownBlock = some k) wr w7 := Fr.of_grown (grown_trans (World.grownBy_alloc wr _ _) HG.out.2.1) (fun k hk => hk)
        refine ⟨k + 1, by omega, by go_num, by rw [← Hk1.out]; exact HG.out.1, HK.out.2.1.trans hf1 (fun _ h => h) (fun i hi e => ?_), fun g hg => ?_⟩
        · have := HK.out.2.2 i e; omega
        · rcases HG.out.2.2 with h4 | h4
          · rw [h4] at hg; exact HK.out.2.2 g hg
          · rw [h4] at hg
            have := HK.out.2.1.size
            simp at hg; omega
      case measure => simp [intOf]; omega
    · obtain rfl : k = n := by omega
      have Hfin := Lib.hid (show NewRow w wr 2 ((addrs 0 s.used).map (Value.int .i64)) (.returned u3) from by
        refine ⟨_, rfl, ?_, HK.out.2.1, HK.out.2.2⟩
        have h5 := HK.out.1
        rw [show addrsK s.used k = (addrs 0 s.used).map (Value.int .i64) from by rw [Hn.out]; exact addrsK_all s.used] at h5
        rw [show ((addrs 0 s.used).map (Value.int .i64)).length = k from by rw [List.length_map, addrs_length]; exact Hn.out.symm]
        exact h5)
      clear hi
      go_wp2
      go_ret
      exact Hfin.out
end Go.Proofs.Ytniifefmjdjebaa
