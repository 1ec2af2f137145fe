/- Walks: Get, Put, Make. -/
import Derived.Test.YtniifefmjdjebaaA6
namespace Go.Proofs.Ytniifefmjdjebaa
open Go.RowKit
set_option linter.unusedVariables false
set_option linter.unusedSimpArgs false

/-- What a slot says. -/
def getV (o : Option Ob) (n : Int) : Int := match o with | none => 0 | some x => if n < 0 ∨ n ≥ x.vs.length then 0 else x.vs.getD n.toNat 0
set_option maxRecDepth 100000 in
set_option maxHeartbeats 400000 in
theorem Get_any (p : Nat) (a n : Int) (S : Nat → Prop) (s : AS) (w : World) (h : IsArena w p S s) :
    Calls Try.prog 32 #[.pointer (some ⟨p, 0, none⟩), .int .i64 a, .int .i64 n] w fun e w' => e = .returned (.tuple #[.int .i64 (getV (findOb 0 s.used a) n), .int .i64 (slotE (findOb 0 s.used a) n)]) ∧ ∃ k, w' = w.drewN k := by
  have H := Lib.hid (slot_any p a n S s w h)
  obtain ⟨vb, m, c0, c2, hh⟩ := h.used
  by_cases he : slotE (findOb 0 s.used a) n = 0
  · cases hx : findOb 0 s.used a with
    | none => rw [hx] at he; simp [slotE] at he
    | some x =>
      rw [hx] at he H
      have hn : ¬ (n < 0 ∨ n ≥ x.vs.length) := by intro hn; simp [slotE, hn] at he
      have He := Lib.hid he
      have Hg := Lib.hid (show getV (some x) n = x.vs.getD n.toNat 0 from if_neg hn)
      obtain ⟨a1, a2, a3, hok, _, _, hw⟩ := hh.word hx
      have n0 : 0 ≤ n := by omega
      have n1 : n < x.vs.length := by omega
      have hk2 := hok.2.1
      have hv := hw n.toNat (by omega)
      rw [show a + 8 + 8 * ((n.toNat : Nat) : Int) = a + 8 + 8 * n from by omega] at hv
      have hvo : I64 x.vs[n.toNat] := hok.2.2 _ (List.getElem_mem _)
      have H2 := Lib.hid (fun k => number_row p 0 (a + 8 + 8 * n) vb _ _ (w.drewN k) c0 hh.bytes (by omega) hvo hv)
      have Hd := Lib.hid (show x.vs.getD n.toNat 0 = x.vs[n.toNat] from by rw [List.getD_eq_getElem?_getD, List.getElem?_eq_getElem (by omega)]; rfl)
      rw [he] at H
      clear h c2 hh hx c0 hw hv hvo he hok a3
      go_enter Try.func32, Try.ntmps32
      go_wp2_with fail
      refine H.out.mono ?_
      rintro e w' ⟨rfl, rfl⟩
      go_wp2_with fail
      go_quiet ((first | (go_at_call 65; exact Calls.quiet_of_same (place_any a n _ ⟨by omega, by omega⟩ ⟨by omega, by omega⟩)) | (go_at_call 68; exact Calls.quiet_of_same (H2.out _))))
      go_wp2
      go_ret2
      exact ⟨by rw [He.out, Hg.out, Hd.out]; rfl, _, rfl⟩
  · have Hg := Lib.hid (show getV (findOb 0 s.used a) n = 0 from by
      cases hx : findOb 0 s.used a with
      | none => rfl
      | some x =>
        rw [hx] at he
        by_cases hn : n < 0 ∨ n ≥ x.vs.length
        · exact if_pos hn
        · exact absurd (if_neg hn) he)
    have hb : (slotE (findOb 0 s.used a) n == 0) = false := by simpa using he
    have hb2 : (slotE (findOb 0 s.used a) n != 0) = true := by simpa using he
    clear h c2 hh c0 he
    go_enter Try.func32, Try.ntmps32
    go_wp2_with fail
    refine H.out.mono ?_
    rintro e w' ⟨rfl, rfl⟩
    go_wp2
    go_ret2
    exact ⟨by rw [Hg.out]; rfl, 0, rfl⟩

/-- A slot of the object at an address, turned. -/
def setOb (off : Nat) : List Ob → Int → Nat → Int → List Ob
  | [], _, _, _ => []
  | x :: l, a, n, v => if a = off + 8 then ⟨x.kind, x.vs.set n v⟩ :: l else x :: setOb (off + x.size) l a n v
theorem size_set (x : Ob) (n : Nat) (v : Int) : (⟨x.kind, x.vs.set n v⟩ : Ob).size = x.size := by simp [Ob.size]
theorem tot_setOb : ∀ (l : List Ob) (off : Nat) (a : Int) (n : Nat) (v : Int), tot (setOb off l a n v) = tot l
  | [], _, _, _, _ => rfl
  | x :: l, off, a, n, v => by
    unfold setOb
    split
    · rw [tot_cons, tot_cons, size_set]
    · rw [tot_cons, tot_cons, tot_setOb l]
theorem length_setOb : ∀ (l : List Ob) (off : Nat) (a : Int) (n : Nat) (v : Int), (setOb off l a n v).length = l.length
  | [], _, _, _, _ => rfl
  | x :: l, off, a, n, v => by
    unfold setOb
    split
    · rfl
    · simp [length_setOb l]
theorem addrs_setOb : ∀ (l : List Ob) (off : Nat) (a : Int) (n : Nat) (v : Int), addrs off (setOb off l a n v) = addrs off l
  | [], _, _, _, _ => rfl
  | x :: l, off, a, n, v => by
    unfold setOb
    split
    · simp [addrs, size_set]
    · simp [addrs, addrs_setOb l]
theorem findOb_setOb : ∀ (l : List Ob) (off : Nat) (a : Int) (n : Nat) (v : Int) (k : Int), findOb off (setOb off l a n v) k = if k = a then (findOb off l a).map (fun x => ⟨x.kind, x.vs.set n v⟩) else findOb off l k
  | [], _, _, _, _, _ => by simp [setOb, findOb]
  | x :: l, off, a, n, v, k => by
    unfold setOb
    by_cases h : a = off + 8
    · rw [if_pos h]
      by_cases hk : k = a
      · subst hk; simp [findOb, h]
      · rw [if_neg hk]
        simp only [findOb, size_set]
        rw [if_neg (by omega), if_neg (by omega)]
    · rw [if_neg h]
      by_cases hk : k = a
      · subst hk
        simp only [findOb]
        rw [if_neg h, findOb_setOb l]
        simp [h]
      · simp only [findOb]
        rw [if_neg hk, findOb_setOb l, if_neg hk]
theorem findOb_setOb_some (l : List Ob) (off : Nat) (a : Int) (n : Nat) (v : Int) (k : Int) : (findOb off (setOb off l a n v) k).isSome = (findOb off l k).isSome := by
  rw [findOb_setOb]
  by_cases h : k = a
  · subst h; simp
  · rw [if_neg h]
theorem mem_setOb : ∀ (l : List Ob) (off : Nat) (a : Int) (n : Nat) (v : Int) (y : Ob), y ∈ setOb off l a n v → y ∈ l ∨ ∃ x ∈ l, y = ⟨x.kind, x.vs.set n v⟩
  | [], _, _, _, _, _, h => by simp [setOb] at h
  | x :: l, off, a, n, v, y, h => by
    unfold setOb at h
    split at h
    · rcases List.mem_cons.1 h with rfl | h
      · exact .inr ⟨x, by simp, rfl⟩
      · exact .inl (by simp [h])
    · rcases List.mem_cons.1 h with rfl | h
      · exact .inl (by simp)
      · rcases mem_setOb l _ _ _ _ _ h with h | ⟨x', h1, h2⟩
        · exact .inl (by simp [h])
        · exact .inr ⟨x', by simp [h1], h2⟩
theorem put8_append (p b : List Int) (n : Nat) (v : Int) : put8 (p ++ b) (p.length + n) v = p ++ put8 b n v := by
  unfold put8
  rw [List.take_append, List.take_of_length_le (by omega), show p.length + n - p.length = n from by omega, show p.length + n + 8 = p.length + (n + 8) from by omega, ← List.drop_drop, List.drop_left]
  simp [List.append_assoc]
theorem flat8_set (vs : List Int) (n : Nat) (v : Int) (h : n < vs.length) (r : List Int) : (vs.set n v).flatMap w8 ++ r = put8 (vs.flatMap w8 ++ r) (8 * n) v := by
  induction vs generalizing n with
  | nil => simp at h
  | cons y vs ih =>
    cases n with
    | zero => simp [put8, List.drop_left' (w8_length y)]
    | succ n =>
      have := ih n (by simpa using h)
      rw [List.set_cons_succ, List.flatMap_cons, List.append_assoc, this, List.flatMap_cons, List.append_assoc, show 8 * (n + 1) = (w8 y).length + 8 * n from by rw [w8_length]; omega, put8_append]
theorem encs_setOb : ∀ (l : List Ob) (off : Nat) (a : Int) (n : Nat) (v : Int) (x : Ob), findOb off l a = some x → n < x.vs.length → off ≤ a.toNat ∧ encs (setOb off l a n v) = put8 (encs l) (a.toNat + 8 + 8 * n - off) v
  | [], _, _, _, _, _, h, _ => by simp [findOb] at h
  | y :: l, off, a, n, v, x, h, hn => by
    unfold findOb at h
    unfold setOb
    split at h
    · rename_i ha
      obtain rfl : y = x := by simpa using h
      refine ⟨by omega, ?_⟩
      rw [if_pos ha, encs_cons, encs_cons, show a.toNat + 8 + 8 * n - off = (w8 y.kind ++ w8 y.vs.length).length + 8 * n from by simp [w8_length]; omega]
      simp only [enc, List.append_assoc, List.length_set]
      rw [flat8_set y.vs n v hn, ← List.append_assoc, ← List.append_assoc, ← put8_append]
      try simp [List.append_assoc]
    · rename_i ha
      have ih := encs_setOb l _ a n v x h hn
      have hs := size_pos y
      refine ⟨by omega, ?_⟩
      rw [if_neg ha, encs_cons, encs_cons, ih.2, ← put8_append, enc_length, show y.size + (a.toNat + 8 + 8 * n - (off + y.size)) = a.toNat + 8 + 8 * n - off from by omega]
theorem set_int (p o g len cap : Nat) (a n : Int) (bs : List Int) (w : World)
    (hb : w.cell? ⟨p, o, none⟩ = some (.slice (some ⟨g, 0, none⟩) len cap)) (hpg : p ≠ g)
    (hown : w.ownsRow 0 5 1 (.slice (some ⟨g, 0, none⟩) len cap) len (bs.map (Value.int .u8))) (ha : 0 ≤ a) (hat : a + 8 ≤ len) (hm : len ≤ 9223372036854775807) :
    Calls Try.prog 64 #[.pointer (some ⟨p, o, none⟩), .int .i64 a, .int .i64 n] w fun e w' => e = .returned (.tuple #[]) ∧
      w'.ownsRow 0 5 1 (.slice (some ⟨g, 0, none⟩) len cap) len ((put8 bs a.toNat n).map (Value.int .u8)) ∧ w.grownBy w' (some g) := by
  obtain ⟨k, rfl⟩ := Int.eq_ofNat_of_zero_le ha
  exact set_any p o g k len cap n bs w hb hpg hown (by omega) hm
/-- An arena behind a turn of its bytes alone. -/
theorem IsArena.turned {w w' : World} {p : Nat} {S : Nat → Prop} {s : AS} {l : List Ob} (h : IsArena w p S s) {g len cap : Nat} (hc : w.cell? ⟨p, 0, none⟩ = some (.slice (some ⟨g, 0, none⟩) len cap)) (hgr : w.grownBy w' (some g))
    (hown : w'.ownsRow 0 5 1 (.slice (some ⟨g, 0, none⟩) len cap) (encs l).length ((encs l).map (Value.int .u8))) (hf : ∀ k, (findOb 0 l k).isSome = (findOb 0 s.used k).isSome) (ha : addrs 0 l = addrs 0 s.used) (ht : tot l = tot s.used)
    (hok : ∀ x ∈ l, x.ok) : IsArena w' p S { s with used := l } ∧ Fr S w w' := by
  obtain ⟨vb, vl, m, vb', vl', mo', mv, hp, h1, h2, h3, h4, h5, h6, h7, h8, h9, h10, h11, hS⟩ := h
  obtain rfl : vb = .slice (some ⟨g, 0, none⟩) len cap := by rw [blk_cell hp 0] at hc; simpa using hc
  have hfr : Fr (fun k => k = g) w w' := Fr.of_grown hgr (fun k hk => by simpa using hk.symm)
  obtain ⟨f, hf1, hf2⟩ := h1.begins
  have hl : l.length = s.used.length := by rw [← addrs_length l 0, ha, addrs_length]
  refine ⟨⟨_, vl, m, vb', vl', mo', mv, hfr.heap hp (fun e => row_ne h1.bytes hp (by decide) (by rw [e]; rfl)), ⟨hown, ⟨f, hfr.omap hf1 (fun b hb e => ?_), fun k => (hf2 k).trans (hf k).symm⟩, hok, by rw [ht]; exact h1.small⟩,
    ?_, h3.keep hfr (fun k hk e => h5 k (by rw [e]; rfl) hk) (fun b hb e => ?_), hfr.imap h4 (fun e => row_ne_imap h1.bytes h4 (by rw [e]; rfl)), h5, h6, h7, h8, by rw [ht]; exact h9, h10, h11, hS⟩, hfr.mono (fun i _ e => (hS i).2 (.inr (.inl (by rw [e]; rfl))))⟩
  · obtain rfl : m = b := by simpa using hb
    exact row_ne_imap h1.bytes hf1 (by rw [e]; rfl)
  · show w'.ownsRow 0 2 1 vl l.length ((addrs 0 l).map (Value.int .i64))
    rw [ha, hl]
    exact hfr.row h2 (fun k hk e => rows_apart h1.bytes h2 (by decide) (by rw [e]; rfl) hk)
  · subst hb
    obtain ⟨f', hf', _⟩ := h3.begins
    exact row_ne_imap h1.bytes hf' (by rw [e]; rfl)
def AS.put (s : AS) (a n v : Int) : AS := if slotE (findOb 0 s.used a) n = 0 then { s with used := setOb 0 s.used a n.toNat v } else s
set_option maxRecDepth 100000 in
set_option maxHeartbeats 400000 in
theorem Put_any (p : Nat) (a n v : Int) (S : Nat → Prop) (s : AS) (w : World) (h : IsArena w p S s) (hv : I64 v) :
    Calls Try.prog 28 #[.pointer (some ⟨p, 0, none⟩), .int .i64 a, .int .i64 n, .int .i64 v] w fun e w' => e = .returned (.int .i64 (slotE (findOb 0 s.used a) n)) ∧ IsArena w' p S (s.put a n v) ∧ Fr S w w' := by
  have H := Lib.hid (slot_any p a n S s w h)
  by_cases he : slotE (findOb 0 s.used a) n = 0
  · have Hs := Lib.hid (show s.put a n v = { s with used := setOb 0 s.used a n.toNat v } from if_pos he)
    cases hx : findOb 0 s.used a with
    | none => rw [hx] at he; simp [slotE] at he
    | some x =>
      rw [hx] at he H
      have hn : ¬ (n < 0 ∨ n ≥ x.vs.length) := by intro hn; simp [slotE, hn] at he
      have He := Lib.hid he
      have Ha := Lib.hid h
      obtain ⟨vb, vl, m, vb', vl', mo', mv, hp, h1, h2, h3, h4, h5, h6, h7, h8, h9, h10, h11, hS⟩ := h
      obtain ⟨a1, a2, a3, hok, _, _, _⟩ := h1.word hx
      have n0 : 0 ≤ n := by omega
      have n1 : n < x.vs.length := by omega
      have hk2 := hok.2.1
      have hle := h1.small
      have hlen := encs_length s.used
      obtain ⟨g, cap, cur, rfl, hg, hgc, hcm⟩ := row_addr h1.bytes (by omega)
      have hpg : p ≠ g := fun e => row_ne h1.bytes hp (by decide) (by rw [e]; rfl)
      have c0 := blk_cell hp 0
      have H2 := Lib.hid (set_int p 0 g (encs s.used).length cap (a + 8 + 8 * n) v _ w.drew c0 hpg h1.bytes (by omega) (by omega) (by omega))
      have hx2 := (encs_setOb s.used 0 a n.toNat v x hx (by omega)).2
      rw [show a.toNat + 8 + 8 * n.toNat - 0 = (a + 8 + 8 * n).toNat from by omega] at hx2
      have Hx := Lib.hid hx2
      have Hf := Lib.hid (show ∀ x' ∈ setOb 0 s.used a n.toNat v, x'.ok from by
        intro y hy
        rcases mem_setOb _ _ _ _ _ _ hy with hy | ⟨x', hx', rfl⟩
        · exact h1.ok y hy
        · obtain ⟨q1, q2, q3⟩ := h1.ok x' hx'
          exact ⟨q1, by simpa using q2, fun u hu => by rcases List.mem_or_eq_of_mem_set hu with hu | rfl; exact q3 u hu; exact hv⟩)
      rw [he] at H
      have C0 := Lib.hid c0
      clear he hp hg h1 h2 h3 h4 h5 h6 h7 h8 hS hlen hx2 hx hok c0
      go_enter Try.func28, Try.ntmps28
      go_wp2_with fail
      refine H.out.mono ?_
      rintro e w' ⟨rfl, rfl⟩
      go_wp2_with fail
      go_still_tail 7, (by kernel_rfl)
      still_call (place_any a n _ ⟨by omega, by omega⟩ ⟨by omega, by omega⟩)
      repeat still_step
      refine wpStill_nil ?_
      change wpList _ _ _ _ _ w'.drew
      go_wp2_with fail
      refine H2.out.mono ?_
      rintro e w2 ⟨rfl, hown2, hgr2⟩
      go_wp2
      go_ret
      rw [← Hx.out] at hown2
      rw [Hs.out]
      have hl2 : (encs (setOb 0 s.used a n.toNat v)).length = (encs s.used).length := by rw [encs_length, encs_length, tot_setOb]
      have hgr3 : w'.grownBy w2 (some g) := ⟨hgr2.os, hgr2.tape, hgr2.output, hgr2.size, hgr2.block⟩
      have hfin := Ha.out.turned C0.out hgr3 (by rw [hl2]; exact hown2) (findOb_setOb_some s.used 0 a n.toNat v) (addrs_setOb _ _ _ _ _) (tot_setOb _ _ _ _ _) Hf.out
      exact ⟨by rw [He.out]; rfl, hfin.1, hfin.2⟩
  · have Hs := Lib.hid (show s.put a n v = s from if_neg he)
    have hb : (slotE (findOb 0 s.used a) n == 0) = false := by simpa using he
    have Ha := Lib.hid h
    clear h he
    go_enter Try.func28, Try.ntmps28
    go_wp2_with fail
    refine H.out.mono ?_
    rintro e w' ⟨rfl, rfl⟩
    go_wp2
    go_ret
    rw [Hs.out]
    exact ⟨rfl, Ha.out, Fr.refl _ _⟩
end Go.Proofs.Ytniifefmjdjebaa
