/- Walk: Copy, where an object is copied for the first time. -/
import Derived.Test.YtniifefmjdjebaaB0
namespace Go.Proofs.Ytniifefmjdjebaa
open Go.RowKit
set_option linter.unusedVariables false
set_option linter.unusedSimpArgs false

theorem info5s : (Try.prog.info? 5).map (·.size) = some 1 := by kernel_rfl
theorem place_nat (a s : Nat) (w : World) (ha : a ≤ 1048576) (hs : s ≤ 1048576) :
    Calls Try.prog 65 #[.int .i64 a, .int .i64 s] w fun e w' => e = .returned (.int .i64 ((a + 8 + 8 * s : Nat) : Int)) ∧ w' = w := by
  refine (place_any a s w ⟨by omega, by omega⟩ ⟨by omega, by omega⟩).mono ?_
  rintro e w' ⟨rfl, rfl⟩
  exact ⟨by rw [show ((a + 8 + 8 * s : Nat) : Int) = (a : Int) + 8 + 8 * s from by omega], rfl⟩
/-- The bytes of a copy. -/
theorem encs_copy (l : List Ob) (x : Ob) : (encs (l ++ [⟨x.kind, List.replicate x.vs.length 0⟩])).take (tot l + 16) ++ x.vs.flatMap w8 ++ (encs (l ++ [⟨x.kind, List.replicate x.vs.length 0⟩])).drop (tot l + 16 + (x.vs.flatMap w8).length) = encs (l ++ [x]) := by
  have e1 : encs (l ++ [⟨x.kind, List.replicate x.vs.length 0⟩]) = (encs l ++ w8 x.kind ++ w8 x.vs.length) ++ List.replicate (8 * x.vs.length) 0 := by
    rw [encs_append, encs_cons]; simp [enc, encs, flat8_zero, List.append_assoc]
  have e2 : (encs l ++ w8 x.kind ++ w8 x.vs.length).length = tot l + 16 := by simp [w8_length, encs_length]
  rw [e1, List.take_left' e2, List.drop_of_length_le (by rw [List.length_append, e2, flat8_length]; simp), encs_append, encs_cons]
  simp [enc, encs, List.append_assoc]
theorem setRow_grown (w : World) (g : Nat) (cs : Array Value) : w.grownBy (w.setRow g cs) (some g) := ⟨rfl, rfl, rfl, by simp [World.setRow], fun k _ h => setRow_other w g k cs (fun e => h (by rw [e]))⟩
theorem encs_slots_all (l1 : List Ob) (x : Ob) (l2 : List Ob) : ((encs (l1 ++ x :: l2)).drop (tot l1 + 16)).take (8 * x.vs.length) = x.vs.flatMap w8 := by
  rw [encs_at, ← encs_length, ← List.drop_drop, List.drop_left, ← List.append_assoc, List.drop_left' (by simp [w8_length]), List.take_append_of_le_length (by rw [flat8_length]; omega), List.take_of_length_le (by rw [flat8_length]; omega)]
/-- The arena behind the copying of an object's slots. -/
theorem IsArena.filled {w : World} {p : Nat} {S : Nat → Prop} {s : AS} {l : List Ob} {x : Ob} (h : IsArena w p S { s with used := l ++ [⟨x.kind, List.replicate x.vs.length 0⟩] }) (hok : x.ok)
    {g cap : Nat} {cur : Array Value} (hc : w.cell? ⟨p, 0, none⟩ = some (.slice (some ⟨g, 0, none⟩) (tot l + 16 + 8 * x.vs.length) cap)) (hg : w.heap[g]? = some (.cells cur 5 (0, 0))) :
    IsArena (w.setRow g (cur.toList.take (tot l + 16) ++ ((x.vs.flatMap w8).map (Value.int .u8) ++ cur.toList.drop (tot l + 16 + ((x.vs.flatMap w8).map (Value.int .u8)).length))).toArray) p S { s with used := l ++ [x] } ∧
      Fr S w (w.setRow g (cur.toList.take (tot l + 16) ++ ((x.vs.flatMap w8).map (Value.int .u8) ++ cur.toList.drop (tot l + 16 + ((x.vs.flatMap w8).map (Value.int .u8)).length))).toArray) := by
  obtain ⟨vb, m, hc0, _, h1⟩ := h.used
  have ht : tot (l ++ [(⟨x.kind, List.replicate x.vs.length 0⟩ : Ob)]) = tot l + 16 + 8 * x.vs.length := by rw [tot_append, tot_cons, tot_nil]; simp [Ob.size]; omega
  have ht' : tot (l ++ [x]) = tot l + 16 + 8 * x.vs.length := by rw [tot_append, tot_cons, tot_nil]; simp [Ob.size]; omega
  rw [hc] at hc0
  obtain rfl := Option.some.inj hc0
  have hb := h1.bytes
  simp only [encs_length] at hb
  rw [ht] at hb
  have hr := row_splice hb hg (tot l + 16) ((x.vs.flatMap w8).map (Value.int .u8)) (by rw [List.length_map, flat8_length]; omega)
  rw [← List.map_take, ← List.map_drop, ← List.map_append, ← List.map_append, List.length_map] at hr
  rw [encs_copy] at hr
  refine h.turned hc (setRow_grown w g _) ?_ ?_ ?_ ?_ ?_
  · rw [encs_length, ht', List.length_map]; exact hr
  · intro k
    show (findOb 0 (l ++ [x]) k).isSome = (findOb 0 (l ++ [⟨x.kind, List.replicate x.vs.length 0⟩]) k).isSome
    rw [findOb_append, findOb_append]; split <;> rfl
  · show addrs 0 (l ++ [x]) = addrs 0 (l ++ [_])
    rw [addrs_append, addrs_append]
  · exact ht'.trans ht.symm
  · intro y hy
    rcases List.mem_append.1 hy with hy | hy
    · exact h1.ok y (List.mem_append.2 (.inl hy))
    · obtain rfl : y = x := by simpa using hy
      exact hok
set_option maxRecDepth 100000 in
set_option maxHeartbeats 1000000 in
theorem Copy_new (p : Nat) (a : Int) (S : Nat → Prop) (s : AS) (w : World) (h : IsArena w p S s) (x : Ob) (hx : findOb 0 s.ahead a = some x) (ht : s.moved a = none) (hr : roomB s x.vs.length = true) :
    Calls Try.prog 35 #[.pointer (some ⟨p, 0, none⟩), .int .i64 a] w (CopyOk p a S s w) := by
  obtain ⟨vb, mo, c3, c5, hh⟩ := h.ahead
  have H := Lib.hid (is_any p 3 a vb mo s.ahead w c5 hh)
  rw [hx] at H
  obtain ⟨mv, c6, hlook⟩ := h.look a
  rw [ht] at hlook
  simp only [Option.getD_none, Option.isSome_none] at hlook
  have H2 := Lib.hid (slots_any p 3 a vb mo s.ahead x w c3 hh hx)
  have H3 := Lib.hid (room_any p x.vs.length S s w h)
  rw [hr] at H3
  obtain ⟨a1, a2, a3, hok, _⟩ := hh.word hx
  have hsl : ((encs s.ahead).drop (a.toNat + 8)).take (8 * x.vs.length) = x.vs.flatMap w8 := by
    obtain ⟨l1, l2, e1, e2⟩ := findOb_split _ _ _ _ hx
    rw [e1, show a.toNat + 8 = tot l1 + 16 from by omega]
    exact encs_slots_all l1 x l2
  have Hsl0 := Lib.hid hsl
  clear hsl
  have Hf := Lib.hid (show ∀ w', Turned w w' p S (s.copied a x) → CopyOk p a S s w (.returned (.tuple #[.int .i64 (tot s.used + 8), .int .i64 0])) w' from by
    intro w' hT
    unfold CopyOk AS.copyA AS.copyE AS.copy; rw [hx, ht]; simp only [hr, if_true]; exact ⟨trivial, hT⟩)
  have H4 := Lib.hid (fun k => kind_any p 3 a vb mo s.ahead x (w.drewN k) c3 (hh.keep (Fr.drewN (fun _ => False) w k) (fun _ _ e => e) (fun _ _ e => e)) hx)
  have H5 := Lib.hid (fun k => lay_arena p x.kind x.vs.length S s (w.drewN k) (h.drewN k) hok.1 (by omega) (by have := hok.2.1; omega) hr)
  have Ha := Lib.hid h
  clear h hh hx c3 c5 ht hr
  go_enter Try.func35, Try.ntmps35
  go_wp2_with fail
  refine H.out.mono ?_
  rintro e w' ⟨rfl, rfl⟩
  go_wp2_with fail
  refine H2.out.mono ?_
  rintro e w' ⟨rfl, rfl⟩
  go_wp2_with fail
  refine H3.out.mono ?_
  rintro e w1 ⟨rfl, k, rfl⟩
  go_wp2_with fail
  go_still_tail 9, (by kernel_rfl)
  still_call (H4.out (k + 1))
  repeat still_step
  refine wpStill_nil ?_
  change wpList _ _ _ _ _ (w'.drewN (k + 1))
  go_wp2_with fail
  refine (H5.out (k + 1)).mono ?_
  rintro e w3 ⟨rfl, ht3⟩
  have Ht3 := Lib.hid ht3.drewN; clear ht3
  go_wp2_with fail
  obtain ⟨S3, hA3, hfr3, hS3⟩ := Ht3.out
  rw [Int.toNat_natCast] at hA3
  have HA3 := Lib.hid hA3
  have HT3 := Lib.hid (And.intro hfr3 hS3)
  obtain ⟨vb3, vl3, m3, vb4, vl4, mo4, mv4, hp3, g1, g2, g3, g4, g5, g6, g7, g8, g9, g10, g11, hS4⟩ := hA3
  have hL : (encs (s.used ++ [(⟨x.kind, List.replicate x.vs.length 0⟩ : Ob)])).length = tot s.used + 16 + 8 * x.vs.length := by
    rw [encs_length, tot_append, tot_cons, tot_nil]; simp [Ob.size]; omega
  have hL2 := encs_length s.ahead
  have hsm := g1.small
  simp only at hsm
  rw [← encs_length, hL] at hsm
  obtain ⟨g, cap, cur, rfl, hg, hgc, hcm⟩ := row_addr g1.bytes (by simp only; rw [hL]; omega)
  have hcs : tot s.used + 16 + 8 * x.vs.length ≤ cur.size := by
    rcases g1.bytes.2 with ⟨h0, _⟩ | ⟨g', cap', cur', h1, _, h2, h3, _, h5, _⟩
    · simp at h0
    · simp only [Value.slice.injEq, Option.some.injEq, Addr.mk.injEq, and_true, true_and] at h1
      obtain ⟨rfl, rfl⟩ := h1
      rw [hg] at h2
      simp only [Option.some.injEq, Obj.cells.injEq, and_true] at h2
      obtain rfl := h2
      simp only at h3
      omega
  have Hcs := Lib.hid hcs
  clear hcs
  obtain ⟨ga, capa, cura, rfl, hga, hgca, hcma⟩ := row_addr g3.bytes (by simp only; omega)
  have hbs := g3.bytes
  simp only at hgc hgca hbs
  rw [hL] at hgc
  rw [hL2] at hgca
  have d0 := blk_cell hp3 0
  have d3 := blk_cell hp3 3
  simp only [List.getElem?_toArray, List.getElem?_cons_succ, List.getElem?_cons_zero, hL, hL2] at d0 d3
  have hm1 : cap ≤ 9223372036854775807 := by simpa [maxLen] using hcm
  have hm2 : capa ≤ 9223372036854775807 := by simpa [maxLen] using hcma
  have Hok := Lib.hid hok
  have hk2 := hok.2.1
  have hasm := g3.small
  simp only at hasm
  obtain ⟨ka, hka⟩ := Int.eq_ofNat_of_zero_le (show 0 ≤ a by omega)
  have Hbs := Lib.hid hbs
  have Hg := Lib.hid hg
  have D0 := Lib.hid d0
  clear hp3 g1 g2 g3 g4 g5 g6 g7 g8 g9 g10 g11 hS4 hga hL hL2 hok hbs hg hfr3 hS3
  subst hka
  obtain ⟨D, hD⟩ : ∃ D, D = tot s.used + 16 := ⟨_, rfl⟩
  obtain ⟨L0, hL0⟩ : ∃ D, D = ka + 8 := ⟨_, rfl⟩
  obtain ⟨L1, hL1⟩ : ∃ D, D = ka + 8 + 8 * x.vs.length := ⟨_, rfl⟩
  have P1 := Lib.hid (fun W => (place_any ((tot s.used : Int) + 8) 0 W ⟨by omega, by omega⟩ ⟨by omega, by omega⟩).mono (R' := fun e w' => e = .returned (.int .i64 D) ∧ w' = W) (by rintro e w' ⟨rfl, rfl⟩; exact ⟨by rw [show (tot s.used : Int) + 8 + 8 + 8 * 0 = (D : Int) from by omega], rfl⟩))
  have P2 := Lib.hid (fun W => (place_any (ka : Int) 0 W ⟨by omega, by omega⟩ ⟨by omega, by omega⟩).mono (R' := fun e w' => e = .returned (.int .i64 L0) ∧ w' = W) (by rintro e w' ⟨rfl, rfl⟩; exact ⟨by rw [show (ka : Int) + 8 + 8 * 0 = (L0 : Int) from by omega], rfl⟩))
  have P3 := Lib.hid (fun W => (place_any (ka : Int) x.vs.length W ⟨by omega, by omega⟩ ⟨by omega, by omega⟩).mono (R' := fun e w' => e = .returned (.int .i64 L1) ∧ w' = W) (by rintro e w' ⟨rfl, rfl⟩; exact ⟨by rw [show (ka : Int) + 8 + 8 * x.vs.length = (L1 : Int) from by omega], rfl⟩))
  obtain ⟨M, hM⟩ : ∃ M, M = tot s.used + 16 + 8 * x.vs.length := ⟨_, rfl⟩
  rw [← hM] at d0
  have i1 : D ≤ M := by omega
  have i0 : M ≤ cap := by omega
  have i2 : L0 ≤ L1 := by omega
  have i3 : L1 ≤ capa := by omega
  have HD := Lib.hid hD
  have hsl : ((encs s.ahead).drop L0).take (8 * x.vs.length) = x.vs.flatMap w8 := by rw [hL0]; exact Hsl0.out
  have Hsl := Lib.hid hsl
  clear hsl
  have HL := Lib.hid (And.intro hL0 hL1)
  have i4 : L1 - L0 = 8 * x.vs.length := by omega
  have i5 : M - D = 8 * x.vs.length := by omega
  have I4 := Lib.hid (And.intro i4 (And.intro i5 hM))
  by_cases hn : x.vs.length = 0
  · have Hn := Lib.hid hn
    clear i4 i5 hD hL0 hL1 hn hM
    go_still_tail 19, (by kernel_rfl)
    still_call (P1.out _)
    repeat still_step
    still_call (P2.out _)
    repeat still_step
    still_call (P3.out _)
    repeat still_step
    refine wpStill_nil ?_
    change wpList _ _ _ _ _ (w3.drewN 1)
    refine wpList_copy_nothing rfl _ _ 33 33 rfl 5 und33 info5s _ _ _ _ _ _ rfl rfl (by rw [I4.out.1, Hn.out]; simp) ?_
    have hA5 : IsArena (w3.drewN 1) p S3 { s with used := s.used ++ [x] } := by
      have h0 := HA3.out.drewN 1
      have hxv : x.vs = [] := List.eq_nil_of_length_eq_zero Hn.out
      rw [show (⟨x.kind, List.replicate x.vs.length 0⟩ : Ob) = x from by cases x; simp at hxv; subst hxv; rfl] at h0
      exact h0
    have hfr5 : Fr S3 w3 (w3.drewN 1) := Fr.drewN _ _ _
    obtain ⟨W5, hW5⟩ : ∃ W, W = w3.drewN 1 := ⟨_, rfl⟩
    rw [← hW5] at hA5 hfr5 ⊢
    clear hW5
    obtain ⟨mv5, o5, k6, hput, hA6, hfr6⟩ := hA5.marked (ka : Int) ((tot s.used : Int) + 8)
    have hput5 := hput W5 rfl
    have Hfin := Lib.hid (Hf.out _ ⟨S3, hA6, ((HT3.out.1.trans hfr5 (fun _ h => h) (fun i hi h => (HT3.out.2 i h).elim id (fun h => by omega))).trans hfr6 (fun _ h => h) (fun i hi h => (HT3.out.2 i h).elim id (fun h => by omega))), HT3.out.2⟩)
    clear hput hA6 hfr6 hA5 hfr5 c6 hlook
    go_wp2
    all_goals (go_ret2; exact Hfin.out)
  · have hne1 : ¬ cap = D := by omega
    have hne2 : ¬ capa = L0 := by omega
    have Hn := Lib.hid hn
    clear i4 i5 hD hL0 hL1 hn hM
    go_still_tail 19, (by kernel_rfl)
    still_call (P1.out _)
    repeat still_step
    still_call (P2.out _)
    repeat still_step
    still_call (P3.out _)
    repeat still_step
    refine wpStill_nil ?_
    change wpList _ _ _ _ _ (w3.drewN 1)
    refine wpList_copy_own rfl _ _ 33 33 rfl 5 und33 info5s g D _ _ ⟨ga, L0, none⟩ _ _ rfl rfl cur 5 Hg.out ((x.vs.flatMap w8).map (Value.int .u8)) ?q1 ?q2 ?q3 ?q4 ?_
    case q1 => rw [List.length_map, flat8_length, I4.out.1, I4.out.2.1]; exact (Nat.min_self _).symm
    case q2 =>
      intro j v hj
      have hjl : j < 8 * x.vs.length := by
        have := (List.getElem?_eq_some_iff.1 hj).1
        rw [List.length_map, flat8_length] at this
        exact this
      rw [show (⟨ga, L0, none⟩ : Addr).add j = ⟨ga, L0 + j, none⟩ from by unfold Addr.add; split <;> simp_all]
      have hw : ((encs s.ahead).drop L0).take (8 * x.vs.length) = x.vs.flatMap w8 := Hsl.out
      have he : (encs s.ahead)[L0 + j]? = (x.vs.flatMap w8)[j]? := by rw [← hw, List.getElem?_take_of_lt hjl, List.getElem?_drop]
      refine row_cell (w := w3.drewN 1) Hbs.out ?_
      rw [List.getElem?_map, he, ← List.getElem?_map]; exact hj
    case q3 =>
      rw [List.length_map, flat8_length]
      have h0 := Hcs.out
      have h1 := HD.out
      omega
    case q4 => intro v hv; obtain ⟨y, _, rfl⟩ := List.mem_map.1 hv; rfl
    have hA5 := ((HA3.out.drewN 1).filled Hok.out (D0.out) Hg.out)
    rw [← HD.out] at hA5
    obtain ⟨W5, hW5⟩ : ∃ W, W = (w3.drewN 1).setRow g (cur.toList.take D ++ ((x.vs.flatMap w8).map (Value.int .u8) ++ cur.toList.drop (D + ((x.vs.flatMap w8).map (Value.int .u8)).length))).toArray := ⟨_, rfl⟩
    rw [← hW5] at hA5 ⊢
    clear hW5
    obtain ⟨hA5, hfr5⟩ := hA5
    have hfr5 := (Fr.drewN S3 w3 1).trans hfr5 (fun _ h => h) (fun _ _ h => h)
    obtain ⟨mv5, o5, k6, hput, hA6, hfr6⟩ := hA5.marked (ka : Int) ((tot s.used : Int) + 8)
    have hput5 := hput W5 rfl
    have Hfin := Lib.hid (Hf.out _ ⟨S3, hA6, ((HT3.out.1.trans hfr5 (fun _ h => h) (fun i hi h => (HT3.out.2 i h).elim id (fun h => by omega))).trans hfr6 (fun _ h => h) (fun i hi h => (HT3.out.2 i h).elim id (fun h => by omega))), HT3.out.2⟩)
    clear hput hA6 hfr6 hA5 hfr5 c6 hlook
    go_wp2
    all_goals (go_ret2; exact Hfin.out)
/-- 'Copy'. -/
theorem Copy_any (p : Nat) (a : Int) (S : Nat → Prop) (s : AS) (w : World) (h : IsArena w p S s) :
    Calls Try.prog 35 #[.pointer (some ⟨p, 0, none⟩), .int .i64 a] w fun e w' => e = .returned (.tuple #[.int .i64 (s.copyA a), .int .i64 (s.copyE a)]) ∧ Turned w w' p S (s.copy a) := by
  cases hx : findOb 0 s.ahead a with
  | none => exact Copy_none p a S s w h hx
  | some x =>
    cases ht : s.moved a with
    | some t => exact Copy_again p a S s w h x hx t ht
    | none =>
      cases hr : roomB s x.vs.length with
      | false => exact Copy_full p a S s w h x hx ht hr
      | true => exact Copy_new p a S s w h x hx ht hr
end Go.Proofs.Ytniifefmjdjebaa
