/- Walks: the document's arena: word, Bytes. -/
import Derived.Test.YtniifefmjdjebaaF1
namespace Go.Proofs.Ytniifefmjdjebaa
open Go.RowKit
set_option linter.unusedVariables false
set_option linter.unusedSimpArgs false

/-- A row that is appended to, in its block or in a new one. -/
def Onto (w w' : World) (e : TypeId) (v v' : Value) (xs : List Value) : Prop := w'.ownsRow 0 e 1 v' xs.length xs ∧ w.grownBy w' v.ownBlock ∧ ∀ g, v'.ownBlock = some g → v.ownBlock = some g ∨ w.heap.size ≤ g
theorem Onto.refl {w : World} {e : TypeId} {v : Value} {xs : List Value} (h : w.ownsRow 0 e 1 v xs.length xs) : Onto w w e v v xs := ⟨h, ⟨rfl, rfl, rfl, Nat.le_refl _, fun _ _ _ => rfl⟩, fun _ h => .inl h⟩
theorem grown_mono {a b c : World} {r1 r2 : Option Nat} (h : a.grownBy b r1) (k : b.grownBy c r2) (hr : ∀ g, r2 = some g → r1 = some g ∨ a.heap.size ≤ g) : a.grownBy c r1 := by
  refine ⟨k.os.trans h.os, k.tape.trans h.tape, k.output.trans h.output, Nat.le_trans h.size k.size, fun i hi hn => ?_⟩
  refine (k.block i (Nat.lt_of_lt_of_le hi h.size) (fun e => ?_)).trans (h.block i hi hn)
  rcases hr i e.symm with h1 | h1
  · exact hn h1.symm
  · omega
theorem Onto.trans {w w' w'' : World} {e : TypeId} {v v' v'' : Value} {xs ys : List Value} (h : Onto w w' e v v' xs) (k : Onto w' w'' e v' v'' ys) : Onto w w'' e v v'' ys :=
  ⟨k.1, grown_mono h.2.1 k.2.1 h.2.2, fun g hg => by
    rcases k.2.2 g hg with h1 | h1
    · exact h.2.2 g h1
    · have := h.2.1.size; right; omega⟩
theorem Onto.one {w w' : World} {e : TypeId} {v v' x : Value} {xs : List Value} {o : Obj} (h1 : w'.ownsRow 0 e 1 v' (xs.length + 1) (xs ++ [x])) (h2 : (w.alloc o).grownBy w' v.ownBlock) (h3 : v'.ownBlock = v.ownBlock ∨ v'.ownBlock = some (w.heap.size + 1)) : Onto w w' e v v' (xs ++ [x]) := by
  refine ⟨by simpa using h1, grown_trans (World.grownBy_alloc w o _) h2, fun g hg => ?_⟩
  rcases h3 with h4 | h4
  · exact .inl (h4 ▸ hg)
  · rw [h4] at hg; right; simp at hg; omega
/-- A row with the first k of eight bytes behind it. -/
def wordK (xs : List Value) (n : Int) (k : Nat) : List Value := xs ++ ((w8 n).take k).map (Value.int .u8)
theorem wordK_length (xs : List Value) (n : Int) (k : Nat) (h : k ≤ 8) : (wordK xs n k).length = xs.length + k := by simp [wordK, w8_length]; omega
theorem wordK_succ (xs : List Value) (n : Int) (k : Nat) (d : Int) (hk : k < 8) (hd : d = (w8 n)[k]?.getD 0) : wordK xs n k ++ [.int .u8 d] = wordK xs n (k + 1) := by
  have hl : k < (w8 n).length := by rw [w8_length]; exact hk
  rw [List.getElem?_eq_getElem hl, Option.getD_some] at hd
  unfold wordK
  rw [List.take_succ_eq_append_getElem hl, List.map_append, hd, List.append_assoc]; rfl
set_option maxRecDepth 100000 in
set_option maxHeartbeats 4000000 in
theorem word_any (v : Value) (n : Int) (xs : List Value) (w : World) (h : w.ownsRow 0 5 1 v xs.length xs) (hn : I64 n) (hm : xs.length + 8 ≤ 9000000) :
    Calls Try.prog 83 #[v, .int .i64 n] w fun e w' => ∃ v', e = .returned v' ∧ Onto w w' 5 v v' (xs ++ (w8 n).map (Value.int .u8)) := by
  obtain ⟨i5, hi5, hz5, hs5, hb5⟩ := info_parts info5
  have H := Lib.hid h; clear h
  obtain ⟨hn1, hn2⟩ := hn
  go_enter Try.func83, Try.ntmps83
  go_wp2
  go_loopw [0, 5] (fun u i wr => ∃ k : Nat, k ≤ 8 ∧ i = .int .i64 (56 - 8 * k) ∧ Onto w wr 5 v u (wordK xs n k)) (fun _ i _ => (intOf i + 8).toNat)
  case atStart => exact ⟨0, by omega, rfl, by simpa [wordK] using Onto.refl H.out⟩
  case round =>
    obtain ⟨k, hk, rfl, ho⟩ := hrel
    have HO := Lib.hid ho; clear ho
    have hkl := wordK_length xs n k hk
    by_cases hlt : k < 8
    · have hr := HO.out.1
      rw [hkl] at hr
      have Hr := Lib.hid hr
      clear hr hkl
      have hcases : k = 0 ∨ k = 1 ∨ k = 2 ∨ k = 3 ∨ k = 4 ∨ k = 5 ∨ k = 6 ∨ k = 7 := by omega
      rcases hcases with rfl | rfl | rfl | rfl | rfl | rfl | rfl | rfl
      · have Hd := Lib.hid (wordK_succ xs n 0 (IntKind.u64.wrap n / 72057594037927936 % 256) (by decide) (by rw [IntKind.wrap_u64]; simp only [w8, byteAt, List.getElem?_cons_zero, List.getElem?_cons_succ, Option.getD_some, Nat.reduceSub, Int.reducePow]; omega))
        go_wp2_with (first | (at_builtin; refine wpList_append_own_at _ rfl _ _ 33 rfl 0 5 i5 (.int .u8 0) 1 1 und33 hi5 hz5 hs5 hb5 rfl (by decide) _ _ _ rfl (Hr.out.alloc _) ⟨wr.heap.size, 0, none⟩ 1 1 [.int .u8 (IntKind.u64.wrap n / 72057594037927936 % 256)] rfl rfl ?c1 ?c2 ?c3 ?c4 ?c5 ?_))
        case c1 => exact cell_one_new _ _ _
        case c2 => intro u hu; simp at hu; subst hu; rfl
        case c3 => unfold maxLen; omega
        case c4 => omega
        case c5 => exact Nat.zero_le _
        intro v7 w7 hown7 hgr7 _ hloc7
        have HG := Lib.hid (HO.out.trans (Onto.one (x := .int .u8 (IntKind.u64.wrap n / 72057594037927936 % 256)) (by rw [wordK_length xs n 0 (by decide)]; exact hown7) hgr7 (by simpa using hloc7)))
        clear hown7 hgr7 hloc7
        go_wp2
        go_roundw
        case rel => exact ⟨0 + 1, by omega, by go_num, by rw [← Hd.out]; exact HG.out⟩
        case measure => simp [intOf]
      · have Hd := Lib.hid (wordK_succ xs n 1 (IntKind.u64.wrap n / 281474976710656 % 256) (by decide) (by rw [IntKind.wrap_u64]; simp only [w8, byteAt, List.getElem?_cons_zero, List.getElem?_cons_succ, Option.getD_some, Nat.reduceSub, Int.reducePow]; omega))
        go_wp2_with (first | (at_builtin; refine wpList_append_own_at _ rfl _ _ 33 rfl 0 5 i5 (.int .u8 0) 1 1 und33 hi5 hz5 hs5 hb5 rfl (by decide) _ _ _ rfl (Hr.out.alloc _) ⟨wr.heap.size, 0, none⟩ 1 1 [.int .u8 (IntKind.u64.wrap n / 281474976710656 % 256)] rfl rfl ?c1 ?c2 ?c3 ?c4 ?c5 ?_))
        case c1 => exact cell_one_new _ _ _
        case c2 => intro u hu; simp at hu; subst hu; rfl
        case c3 => unfold maxLen; omega
        case c4 => omega
        case c5 => exact Nat.zero_le _
        intro v7 w7 hown7 hgr7 _ hloc7
        have HG := Lib.hid (HO.out.trans (Onto.one (x := .int .u8 (IntKind.u64.wrap n / 281474976710656 % 256)) (by rw [wordK_length xs n 1 (by decide)]; exact hown7) hgr7 (by simpa using hloc7)))
        clear hown7 hgr7 hloc7
        go_wp2
        go_roundw
        case rel => exact ⟨1 + 1, by omega, by go_num, by rw [← Hd.out]; exact HG.out⟩
        case measure => simp [intOf]
      · have Hd := Lib.hid (wordK_succ xs n 2 (IntKind.u64.wrap n / 1099511627776 % 256) (by decide) (by rw [IntKind.wrap_u64]; simp only [w8, byteAt, List.getElem?_cons_zero, List.getElem?_cons_succ, Option.getD_some, Nat.reduceSub, Int.reducePow]; omega))
        go_wp2_with (first | (at_builtin; refine wpList_append_own_at _ rfl _ _ 33 rfl 0 5 i5 (.int .u8 0) 1 1 und33 hi5 hz5 hs5 hb5 rfl (by decide) _ _ _ rfl (Hr.out.alloc _) ⟨wr.heap.size, 0, none⟩ 1 1 [.int .u8 (IntKind.u64.wrap n / 1099511627776 % 256)] rfl rfl ?c1 ?c2 ?c3 ?c4 ?c5 ?_))
        case c1 => exact cell_one_new _ _ _
        case c2 => intro u hu; simp at hu; subst hu; rfl
        case c3 => unfold maxLen; omega
        case c4 => omega
        case c5 => exact Nat.zero_le _
        intro v7 w7 hown7 hgr7 _ hloc7
        have HG := Lib.hid (HO.out.trans (Onto.one (x := .int .u8 (IntKind.u64.wrap n / 1099511627776 % 256)) (by rw [wordK_length xs n 2 (by decide)]; exact hown7) hgr7 (by simpa using hloc7)))
        clear hown7 hgr7 hloc7
        go_wp2
        go_roundw
        case rel => exact ⟨2 + 1, by omega, by go_num, by rw [← Hd.out]; exact HG.out⟩
        case measure => simp [intOf]
      · have Hd := Lib.hid (wordK_succ xs n 3 (IntKind.u64.wrap n / 4294967296 % 256) (by decide) (by rw [IntKind.wrap_u64]; simp only [w8, byteAt, List.getElem?_cons_zero, List.getElem?_cons_succ, Option.getD_some, Nat.reduceSub, Int.reducePow]; omega))
        go_wp2_with (first | (at_builtin; refine wpList_append_own_at _ rfl _ _ 33 rfl 0 5 i5 (.int .u8 0) 1 1 und33 hi5 hz5 hs5 hb5 rfl (by decide) _ _ _ rfl (Hr.out.alloc _) ⟨wr.heap.size, 0, none⟩ 1 1 [.int .u8 (IntKind.u64.wrap n / 4294967296 % 256)] rfl rfl ?c1 ?c2 ?c3 ?c4 ?c5 ?_))
        case c1 => exact cell_one_new _ _ _
        case c2 => intro u hu; simp at hu; subst hu; rfl
        case c3 => unfold maxLen; omega
        case c4 => omega
        case c5 => exact Nat.zero_le _
        intro v7 w7 hown7 hgr7 _ hloc7
        have HG := Lib.hid (HO.out.trans (Onto.one (x := .int .u8 (IntKind.u64.wrap n / 4294967296 % 256)) (by rw [wordK_length xs n 3 (by decide)]; exact hown7) hgr7 (by simpa using hloc7)))
        clear hown7 hgr7 hloc7
        go_wp2
        go_roundw
        case rel => exact ⟨3 + 1, by omega, by go_num, by rw [← Hd.out]; exact HG.out⟩
        case measure => simp [intOf]
      · have Hd := Lib.hid (wordK_succ xs n 4 (IntKind.u64.wrap n / 16777216 % 256) (by decide) (by rw [IntKind.wrap_u64]; simp only [w8, byteAt, List.getElem?_cons_zero, List.getElem?_cons_succ, Option.getD_some, Nat.reduceSub, Int.reducePow]; omega))
        go_wp2_with (first | (at_builtin; refine wpList_append_own_at _ rfl _ _ 33 rfl 0 5 i5 (.int .u8 0) 1 1 und33 hi5 hz5 hs5 hb5 rfl (by decide) _ _ _ rfl (Hr.out.alloc _) ⟨wr.heap.size, 0, none⟩ 1 1 [.int .u8 (IntKind.u64.wrap n / 16777216 % 256)] rfl rfl ?c1 ?c2 ?c3 ?c4 ?c5 ?_))
        case c1 => exact cell_one_new _ _ _
        case c2 => intro u hu; simp at hu; subst hu; rfl
        case c3 => unfold maxLen; omega
        case c4 => omega
        case c5 => exact Nat.zero_le _
        intro v7 w7 hown7 hgr7 _ hloc7
        have HG := Lib.hid (HO.out.trans (Onto.one (x := .int .u8 (IntKind.u64.wrap n / 16777216 % 256)) (by rw [wordK_length xs n 4 (by decide)]; exact hown7) hgr7 (by simpa using hloc7)))
        clear hown7 hgr7 hloc7
        go_wp2
        go_roundw
        case rel => exact ⟨4 + 1, by omega, by go_num, by rw [← Hd.out]; exact HG.out⟩
        case measure => simp [intOf]
      · have Hd := Lib.hid (wordK_succ xs n 5 (IntKind.u64.wrap n / 65536 % 256) (by decide) (by rw [IntKind.wrap_u64]; simp only [w8, byteAt, List.getElem?_cons_zero, List.getElem?_cons_succ, Option.getD_some, Nat.reduceSub, Int.reducePow]; omega))
        go_wp2_with (first | (at_builtin; refine wpList_append_own_at _ rfl _ _ 33 rfl 0 5 i5 (.int .u8 0) 1 1 und33 hi5 hz5 hs5 hb5 rfl (by decide) _ _ _ rfl (Hr.out.alloc _) ⟨wr.heap.size, 0, none⟩ 1 1 [.int .u8 (IntKind.u64.wrap n / 65536 % 256)] rfl rfl ?c1 ?c2 ?c3 ?c4 ?c5 ?_))
        case c1 => exact cell_one_new _ _ _
        case c2 => intro u hu; simp at hu; subst hu; rfl
        case c3 => unfold maxLen; omega
        case c4 => omega
        case c5 => exact Nat.zero_le _
        intro v7 w7 hown7 hgr7 _ hloc7
        have HG := Lib.hid (HO.out.trans (Onto.one (x := .int .u8 (IntKind.u64.wrap n / 65536 % 256)) (by rw [wordK_length xs n 5 (by decide)]; exact hown7) hgr7 (by simpa using hloc7)))
        clear hown7 hgr7 hloc7
        go_wp2
        go_roundw
        case rel => exact ⟨5 + 1, by omega, by go_num, by rw [← Hd.out]; exact HG.out⟩
        case measure => simp [intOf]
      · have Hd := Lib.hid (wordK_succ xs n 6 (IntKind.u64.wrap n / 256 % 256) (by decide) (by rw [IntKind.wrap_u64]; simp only [w8, byteAt, List.getElem?_cons_zero, List.getElem?_cons_succ, Option.getD_some, Nat.reduceSub, Int.reducePow]; omega))
        go_wp2_with (first | (at_builtin; refine wpList_append_own_at _ rfl _ _ 33 rfl 0 5 i5 (.int .u8 0) 1 1 und33 hi5 hz5 hs5 hb5 rfl (by decide) _ _ _ rfl (Hr.out.alloc _) ⟨wr.heap.size, 0, none⟩ 1 1 [.int .u8 (IntKind.u64.wrap n / 256 % 256)] rfl rfl ?c1 ?c2 ?c3 ?c4 ?c5 ?_))
        case c1 => exact cell_one_new _ _ _
        case c2 => intro u hu; simp at hu; subst hu; rfl
        case c3 => unfold maxLen; omega
        case c4 => omega
        case c5 => exact Nat.zero_le _
        intro v7 w7 hown7 hgr7 _ hloc7
        have HG := Lib.hid (HO.out.trans (Onto.one (x := .int .u8 (IntKind.u64.wrap n / 256 % 256)) (by rw [wordK_length xs n 6 (by decide)]; exact hown7) hgr7 (by simpa using hloc7)))
        clear hown7 hgr7 hloc7
        go_wp2
        go_roundw
        case rel => exact ⟨6 + 1, by omega, by go_num, by rw [← Hd.out]; exact HG.out⟩
        case measure => simp [intOf]
      · have Hd := Lib.hid (wordK_succ xs n 7 (IntKind.u64.wrap n % 256) (by decide) (by rw [IntKind.wrap_u64]; simp only [w8, byteAt, List.getElem?_cons_zero, List.getElem?_cons_succ, Option.getD_some, Nat.reduceSub, Int.reducePow]; omega))
        go_wp2_with (first | (at_builtin; refine wpList_append_own_at _ rfl _ _ 33 rfl 0 5 i5 (.int .u8 0) 1 1 und33 hi5 hz5 hs5 hb5 rfl (by decide) _ _ _ rfl (Hr.out.alloc _) ⟨wr.heap.size, 0, none⟩ 1 1 [.int .u8 (IntKind.u64.wrap n % 256)] rfl rfl ?c1 ?c2 ?c3 ?c4 ?c5 ?_))
        case c1 => exact cell_one_new _ _ _
        case c2 => intro u hu; simp at hu; subst hu; rfl
        case c3 => unfold maxLen; omega
        case c4 => omega
        case c5 => exact Nat.zero_le _
        intro v7 w7 hown7 hgr7 _ hloc7
        have HG := Lib.hid (HO.out.trans (Onto.one (x := .int .u8 (IntKind.u64.wrap n % 256)) (by rw [wordK_length xs n 7 (by decide)]; exact hown7) hgr7 (by simpa using hloc7)))
        clear hown7 hgr7 hloc7
        go_wp2
        go_roundw
        case rel => exact ⟨7 + 1, by omega, by go_num, by rw [← Hd.out]; exact HG.out⟩
        case measure => simp [intOf]
    · obtain rfl : k = 8 := by omega
      have HF := Lib.hid (show Onto w wr 5 v u0 (xs ++ (w8 n).map (Value.int .u8)) from by have := HO.out; unfold wordK at this; rwa [List.take_of_length_le (by rw [w8_length]; omega)] at this)
      clear hkl
      go_wp2
      go_ret
      exact ⟨_, rfl, HF.out⟩
end Go.Proofs.Ytniifefmjdjebaa
