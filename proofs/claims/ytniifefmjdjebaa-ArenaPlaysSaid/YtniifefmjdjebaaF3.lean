/- Walks: the document's arena: Bytes. -/
import Derived.Test.YtniifefmjdjebaaF2
namespace Go.Proofs.Ytniifefmjdjebaa
open Go.RowKit
set_option linter.unusedVariables false
set_option linter.unusedSimpArgs false

def nilRow : Value := .slice none 0 0
theorem Onto.fr {w w' : World} {e : TypeId} {v : Value} {xs : List Value} (h : Onto w w' e nilRow v xs) : Fr (fun _ => False) w w' := Fr.of_grown h.2.1 (by simp [nilRow, Value.ownBlock])
theorem Onto.new {w w' : World} {e : TypeId} {v : Value} {xs : List Value} (h : Onto w w' e nilRow v xs) {g : Nat} (hg : v.ownBlock = some g) : w.heap.size ≤ g := by
  rcases h.2.2 g hg with h1 | h1
  · simp [nilRow, Value.ownBlock] at h1
  · exact h1
/-- The bytes of the first i objects, then those of a head and of k slots. -/
def bytesI (l : List Ob) (i : Nat) : List Value := (encs (l.take i)).map (Value.int .u8)
def bytesK (l : List Ob) (i : Nat) (x : Ob) (k : Nat) : List Value := (bytesI l i ++ (w8 x.kind).map (Value.int .u8)) ++ (w8 x.vs.length).map (Value.int .u8) ++ ((x.vs.take k).flatMap w8).map (Value.int .u8)
theorem bytesK_succ (l : List Ob) (i : Nat) (x : Ob) (k : Nat) (h : k < x.vs.length) : bytesK l i x k ++ (w8 (x.vs[k]?.getD 0)).map (Value.int .u8) = bytesK l i x (k + 1) := by
  unfold bytesK
  rw [List.take_succ_eq_append_getElem h, List.flatMap_append, List.map_append, List.getElem?_eq_getElem h]
  simp
theorem bytesK_all (l : List Ob) (i : Nat) (x : Ob) (h : l[i]? = some x) : bytesK l i x x.vs.length = bytesI l (i + 1) := by
  obtain ⟨hl, hx⟩ := List.getElem?_eq_some_iff.1 h
  unfold bytesK bytesI
  rw [List.take_succ_eq_append_getElem hl, encs_append, hx, List.take_length]
  simp [encs, enc]
theorem bytesI_length (l : List Ob) (i : Nat) : (bytesI l i).length ≤ tot l := by
  unfold bytesI; rw [List.length_map, encs_length]; exact tot_take_le l i
theorem bytesK_length (l : List Ob) (i : Nat) (x : Ob) (k : Nat) : (bytesK l i x k).length ≤ tot l + 16 + 8 * x.vs.length := by
  have h1 := bytesI_length l i
  have h2 : ((x.vs.take k).flatMap w8).length ≤ 8 * x.vs.length := by
    rw [flat8_length, List.length_take]; omega
  unfold bytesK
  rw [List.length_append, List.length_append, List.length_append, List.length_map, List.length_map, List.length_map, w8_length, w8_length]
  omega
set_option maxRecDepth 100000 in
set_option maxHeartbeats 4000000 in
theorem refBytes_any (q : Nat) (S : Nat → Prop) (s : AS) (w : World) (h : IsRef w q S s) (hg : s.Good) :
    Calls Try.prog 75 #[.pointer (some ⟨q, 0, none⟩)] w fun e w' => NewRow w w' 5 ((encs s.used).map (Value.int .u8)) e := by
  obtain ⟨vl, va, hl, ha, tl, h1, h2⟩ := h
  have hll := len_le_tot s.used
  have hsm := hg.small
  have H := Lib.hid h1
  have HG := Lib.hid hg; clear h1 h2 hg
  obtain ⟨n, hn⟩ : ∃ n, n = s.used.length := ⟨_, rfl⟩
  have Hn := Lib.hid hn
  rw [← hn] at hll
  clear hn
  obtain ⟨av, cv, hv⟩ := row_form H.out.used.row
  rw [← Hn.out] at hv
  subst hv
  go_enter Try.func75, Try.ntmps75
  go_wp2
  go_loopw [3, 4] (fun v i wr => ∃ k : Nat, k ≤ n ∧ i = .int .i64 k ∧ Onto w wr 5 nilRow v (bytesI s.used k)) (fun _ i _ => (n - intOf i).toNat)
  case atStart => exact ⟨0, by omega, rfl, Onto.refl (World.ownsRow_nil _ _ _ _)⟩
  case round =>
    obtain ⟨i, hk, rfl, ho⟩ := hrel
    have HO := Lib.hid ho; clear ho
    have hi := H.out.keep (T := fun _ => False) HO.out.fr (fun _ _ h => h)
    have c2 := blk_cell hi.top 2
    simp only [List.getElem?_toArray, List.getElem?_cons_succ, List.getElem?_cons_zero] at c2
    by_cases hlt : i < n
    · have hr := hi.used.row
      rw [← Hn.out] at hr
      obtain ⟨g, c, _, e1, _, _, _⟩ := row_addr hr (by omega)
      simp only [Value.slice.injEq, true_and] at e1
      obtain ⟨rfl, rfl⟩ := e1
      have hkl : i < s.used.length := by rw [← Hn.out]; exact hlt
      have hkh : i < hl.length := by rw [hi.used.length]; exact hkl
      obtain ⟨o, ho⟩ : ∃ o, o = hl[i] := ⟨_, rfl⟩
      have ho' : hl[i]? = some o := by rw [List.getElem?_eq_getElem hkh, ho]
      obtain ⟨x, hx⟩ : ∃ x, x = s.used[i] := ⟨_, rfl⟩
      have hx' : s.used[i]? = some x := by rw [List.getElem?_eq_getElem hkl, hx]
      have HI := Lib.hid (And.intro ho' hx')
      have hok := HG.out.used x (List.mem_of_getElem? hx')
      have hvl := hok.2.1
      have Hok := Lib.hid hok
      have hb0 := bytesI_length s.used i
      have hb1 := bytesK_length s.used i x
      obtain ⟨ob, ov⟩ := o
      have hob := hi.used.obs i _ _ ho' hx'
      obtain ⟨avx, cvx, hov⟩ := row_form hob.row
      simp only at hov
      subst hov
      -- what stays readable however the row of bytes grows
      have HR := Lib.hid (show ∀ wz u (ys : List Value), Onto w wz 5 nilRow u ys → wz.cell? ⟨q, 2, none⟩ = some (.slice (some ⟨g, 0, none⟩) n cv) ∧ wz.cell? ⟨g, i, none⟩ = some (.pointer (some ⟨ob, 0, none⟩)) ∧ wz.cell? ⟨ob, 1, none⟩ = some (.int .i64 x.kind) ∧
          wz.cell? ⟨ob, 2, none⟩ = some (.slice avx x.vs.length cvx) ∧ wz.ownsRow 0 2 1 (.slice avx x.vs.length cvx) x.vs.length (x.vs.map (Value.int .i64)) from fun wz u ys hz => by
        have hi := H.out.keep (T := fun _ => False) hz.fr (fun _ _ h => h)
        have hr := hi.used.row
        rw [← Hn.out] at hr
        have hob := hi.used.obs i _ _ HI.out.1 HI.out.2
        exact ⟨blk_cell hi.top 2, row_cell hr (j := i) (u := optr (ob, .slice avx x.vs.length cvx)) (by rw [List.getElem?_map, HI.out.1]; rfl), blk_cell hob.cells 1, blk_cell hob.cells 2, hob.row⟩)
      clear hr hkl hkh hob ho ho' hi hx hx' c2 hok
      obtain ⟨r1, r2, r3, r4, _⟩ := HR.out _ _ _ HO.out
      go_wp2_with fail
      refine (word_any _ x.kind (bytesI s.used i) _ HO.out.1 Hok.out.1 (by omega)).mono ?_
      rintro e w1 ⟨v1, rfl, ho1⟩
      have HO1 := Lib.hid (HO.out.trans ho1)
      clear ho1 r1 r2 r3 r4
      obtain ⟨r1, r2, r3, r4, _⟩ := HR.out _ _ _ HO1.out
      go_wp2_with fail
      refine (word_any _ x.vs.length _ _ HO1.out.1 (by unfold I64; omega) (by rw [List.length_append, List.length_map, w8_length]; omega)).mono ?_
      rintro e w2 ⟨v2, rfl, ho2⟩
      have HO2 := Lib.hid (show Onto w w2 5 nilRow v2 (bytesK s.used i x 0) from by simpa [bytesK] using HO1.out.trans ho2)
      clear ho2 r1 r2 r3 r4
      go_wp2_with fail
      obtain ⟨xn, hxn⟩ : ∃ xn, xn = x.vs.length := ⟨_, rfl⟩
      have Hxn := Lib.hid hxn
      rw [← hxn] at HR hvl hb1 ⊢
      clear hxn
      go_loopw [3, 5] (fun v j wr => ∃ k : Nat, k ≤ xn ∧ j = .int .i64 k ∧ Onto w wr 5 nilRow v (bytesK s.used i x k)) (fun _ j _ => (xn - intOf j).toNat)
      case atStart => exact ⟨0, by omega, rfl, HO2.out⟩
      case round =>
        obtain ⟨k, hkx, rfl, ho⟩ := hrel
        have HK := Lib.hid ho; clear ho
        obtain ⟨r1, r2, r3, r4, r5⟩ := HR.out _ _ _ HK.out
        by_cases hkl : k < xn
        · obtain ⟨gx, cx, _, e1, _, _, _⟩ := row_addr r5 (by omega)
          simp only [Value.slice.injEq, true_and] at e1
          obtain ⟨rfl, rfl⟩ := e1
          have r6 := row_int r5 hkl
          have Hk1 := Lib.hid (bytesK_succ s.used i x k (by rw [← Hxn.out]; exact hkl))
          have hy64 : I64 (x.vs[k]?.getD 0) := by
            have hk' : k < x.vs.length := by rw [← Hxn.out]; exact hkl
            rw [List.getElem?_eq_getElem hk', Option.getD_some]
            exact Hok.out.2.2 _ (List.getElem_mem hk')
          obtain ⟨y, hy⟩ : ∃ y, y = x.vs[k]?.getD 0 := ⟨_, rfl⟩
          rw [← hy] at r6 hy64 Hk1
          have Hy := Lib.hid hy64
          have hbl := hb1 k
          clear hy r3 r5 hy64
          go_wp2_with fail
          refine (word_any _ y _ _ HK.out.1 Hy.out (by omega)).mono ?_
          rintro e w3 ⟨v3, rfl, ho3⟩
          have HO3 := Lib.hid (HK.out.trans ho3)
          rw [Hk1.out] at HO3
          clear ho3 r1 r2 r4 r6
          go_wp2
          go_roundw
          case rel => exact ⟨k + 1, by omega, by go_num, HO3.out⟩
          case measure => simp [intOf]; omega
        · obtain rfl : k = xn := by omega
          have HL := Lib.hid (show Onto w wr 5 nilRow u3 (bytesI s.used (i + 1)) from by
            have h1 := bytesK_all s.used i x HI.out.2
            rw [← Hxn.out] at h1
            rw [← h1]
            exact HK.out)
          clear r3 r5
          go_wp2
          go_roundw
          case rel => exact ⟨i + 1, by omega, by go_num, HL.out⟩
          case measure => simp [intOf]; omega
    · obtain rfl : i = n := by omega
      have Hfin := Lib.hid (show NewRow w wr 5 ((encs s.used).map (Value.int .u8)) (.returned u3) from by
        have h5 := HO.out
        rw [show bytesI s.used i = (encs s.used).map (Value.int .u8) from by rw [Hn.out]; unfold bytesI; rw [List.take_length]] at h5
        exact ⟨_, rfl, h5.1, h5.fr, fun g hg => h5.new hg⟩)
      clear hi
      go_wp2
      go_ret
      exact Hfin.out
end Go.Proofs.Ytniifefmjdjebaa
