/- Walk: Copy. · Walk: Copy, where an object is copied for the first time. · Walks of the law's helpers: known, within. · Walks of the laws' helpers: made, SameWords, number. · Walk: ArenaFull. · Walk: ArenaPuts. · The state of a law: one arena, rows beside it. · The state of a law, with rows that are appended to. · Walk: ArenaBytes. · Walk: ArenaFresh. · Walk: ArenaCopies. · Walk: ArenaCopies. -/
import Derived.Test.YtniifefmjdjebaaKA
import Derived.Laws.CopyOwn
import Derived.Deep.DeepCutAuto
import Derived.Deep.CutBlock
namespace Go.Proofs.Ytniifefmjdjebaa
open Go.RowKit
set_option linter.unusedVariables false
set_option linter.unusedSimpArgs false

def AS.copied (s : AS) (a : Int) (x : Ob) : AS := { s with used := s.used ++ [x], moved := fun k => if k = a then some (tot s.used + 8) else s.moved k }
def AS.copyA (s : AS) (a : Int) : Int := match findOb 0 s.ahead a with | none => 0 | some x => match s.moved a with | some t => t | none => if roomB s x.vs.length then tot s.used + 8 else 0
def AS.copyE (s : AS) (a : Int) : Int := match findOb 0 s.ahead a with | none => 57 | some x => match s.moved a with | some _ => 0 | none => if roomB s x.vs.length then 0 else 7
def AS.copy (s : AS) (a : Int) : AS := match findOb 0 s.ahead a with | none => s | some x => match s.moved a with | some _ => s | none => if roomB s x.vs.length then s.copied a x else s
/-- A row behind a splice. -/
theorem row_splice {w : World} {base e g n cap : Nat} {xs : List Value} {cur : Array Value} (h : w.ownsRow base e 1 (.slice (some ⟨g, 0, none⟩) n cap) n xs) (hg : w.heap[g]? = some (.cells cur e (0, 0))) (off : Nat) (cs : List Value) (hf : off + cs.length ≤ n) :
    (w.setRow g (cur.toList.take off ++ (cs ++ cur.toList.drop (off + cs.length))).toArray).ownsRow base e 1 (.slice (some ⟨g, 0, none⟩) n cap) n (xs.take off ++ cs ++ xs.drop (off + cs.length)) := by
  rcases h.2 with ⟨h0, _⟩ | ⟨g', cap', cur', h1, hb, h2, h3, h4, h5, h6⟩
  · simp at h0
  · simp only [Value.slice.injEq, Option.some.injEq, Addr.mk.injEq, and_true, true_and] at h1
    obtain ⟨rfl, rfl⟩ := h1
    rw [hg] at h2
    simp only [Option.some.injEq, Obj.cells.injEq, and_true] at h2
    obtain rfl := h2
    have hl : xs.length = n := by simpa using h.1
    refine ⟨by simp; omega, .inr ⟨g, cap, _, rfl, hb, setRow_heap w g cur _ e _ hg, h3, h4, by simp; omega, ?_⟩⟩
    rw [Nat.mul_one] at h6 ⊢
    have hcn : n ≤ cur.toList.length := by simp; omega
    have e1 : cur.toList = xs ++ cur.toList.drop n := by rw [← h6, List.take_append_drop]
    generalize cur.toList.drop n = tl at e1
    have e2 : (xs ++ tl).take off = xs.take off := List.take_append_of_le_length (by omega)
    have e3 : (xs ++ tl).drop (off + cs.length) = xs.drop (off + cs.length) ++ tl := List.drop_append_of_le_length (by omega)
    simp only [e1, e2, e3]
    rw [← List.append_assoc, ← List.append_assoc, List.take_append_of_le_length (by simp; omega), List.take_of_length_le (by simp; omega)]
/-- The arena behind a store into the map of what was moved. -/
theorem IsArena.marked {w : World} {p : Nat} {S : Nat → Prop} {s : AS} (h : IsArena w p S s) (a t : Int) :
    ∃ mv o, w.cell? ⟨p, 6, none⟩ = some (.map (some mv)) ∧ (∀ W : World, W.heap[mv]? = w.heap[mv]? → (Instr.mapUpdate 90 (.map (some mv)) (.int .i64 a) (.int .i64 t)).run Try.prog W = .ok () (ChangeMaps.setBlock W mv o)) ∧
      IsArena (ChangeMaps.setBlock w mv o) p S { s with moved := fun k => if k = a then some t else s.moved k } ∧ Fr S w (ChangeMaps.setBlock w mv o) := by
  obtain ⟨vb, vl, m, vb', vl', mo', mv, hp, h1, h2, h3, h4, h5, h6, h7, h8, h9, h10, h11, hS⟩ := h
  obtain ⟨o, ho1, ho2⟩ := h4.put und90 i64k a t
  have hfr : Fr (fun k => k = mv) w (ChangeMaps.setBlock w mv o) := Fr.setBlock w mv o rfl
  obtain ⟨es, c, hb, _⟩ := h4
  have hpm : p ≠ mv := by rintro rfl; rw [hp] at hb; simp at hb
  refine ⟨mv, o, blk_cell hp 6, ho1, ⟨vb, vl, m, vb', vl', mo', mv, hfr.heap hp hpm, h1.keep hfr (fun k hk e => row_ne_map h1.bytes hb (by rw [← e, hk])) (fun k hk e => h6 (by simp at hk; omega)),
    hfr.row h2 (fun k hk e => row_ne_map h2 hb (by rw [← e, hk])), h3.keep hfr (fun k hk e => row_ne_map h3.bytes hb (by rw [← e, hk])) (fun k hk e => h8 (by rw [hk, e])), ho2 w rfl, h5, h6, h7, h8, h9, h10, h11, hS⟩, hfr.mono (fun i _ e => (hS i).2 (.inr (.inr (.inr (.inr (.inr (.inr e)))))))⟩
/-- The ahead half of an arena, and its cells. -/
theorem IsArena.ahead {w : World} {p : Nat} {S : Nat → Prop} {s : AS} (h : IsArena w p S s) : ∃ vb mo, w.cell? ⟨p, 3, none⟩ = some vb ∧ w.cell? ⟨p, 3 + 2, none⟩ = some (.map mo) ∧ HalfOf w vb mo s.ahead := by
  obtain ⟨vb, vl, m, vb', vl', mo', mv, hp, h1, h2, h3, _⟩ := h
  exact ⟨vb', mo', blk_cell hp 3, blk_cell hp 5, h3⟩
theorem IsArena.look {w : World} {p : Nat} {S : Nat → Prop} {s : AS} (h : IsArena w p S s) (a : Int) : ∃ mv, w.cell? ⟨p, 6, none⟩ = some (.map (some mv)) ∧ (Instr.lookup 90 (.map (some mv)) (.int .i64 a) true).run Try.prog w = .ok (.tuple #[.int .i64 ((s.moved a).getD 0), .bool (s.moved a).isSome]) w := by
  obtain ⟨vb, vl, m, vb', vl', mo', mv, hp, h1, h2, h3, h4, _⟩ := h
  exact ⟨mv, blk_cell hp 6, h4.look und90 i64k zero2 a⟩
def CopyOk (p : Nat) (a : Int) (S : Nat → Prop) (s : AS) (w : World) (e : Ending) (w' : World) : Prop := e = .returned (.tuple #[.int .i64 (s.copyA a), .int .i64 (s.copyE a)]) ∧ Turned w w' p S (s.copy a)
set_option maxRecDepth 100000 in
set_option maxHeartbeats 400000 in
theorem Copy_none (p : Nat) (a : Int) (S : Nat → Prop) (s : AS) (w : World) (h : IsArena w p S s) (hx : findOb 0 s.ahead a = none) :
    Calls Try.prog 35 #[.pointer (some ⟨p, 0, none⟩), .int .i64 a] w (CopyOk p a S s w) := by
  obtain ⟨vb, mo, c3, c5, hh⟩ := h.ahead
  have H := Lib.hid (is_any p 3 a vb mo s.ahead w c5 hh)
  rw [hx] at H
  have Hf := Lib.hid (show CopyOk p a S s w (.returned (.tuple #[.int .i64 0, .int .i64 57])) w from by
    unfold CopyOk AS.copyA AS.copyE AS.copy; rw [hx]; exact ⟨rfl, Turned.same h (Fr.refl _ _)⟩)
  clear h hh hx c3 c5
  go_enter Try.func35, Try.ntmps35
  go_wp2_with fail
  refine H.out.mono ?_
  rintro e w' ⟨rfl, rfl⟩
  go_wp2
  go_ret2
  exact Hf.out
set_option maxRecDepth 100000 in
set_option maxHeartbeats 400000 in
theorem Copy_again (p : Nat) (a : Int) (S : Nat → Prop) (s : AS) (w : World) (h : IsArena w p S s) (x : Ob) (hx : findOb 0 s.ahead a = some x) (t : Int) (ht : s.moved a = some t) :
    Calls Try.prog 35 #[.pointer (some ⟨p, 0, none⟩), .int .i64 a] w (CopyOk p a S s w) := by
  obtain ⟨vb, mo, c3, c5, hh⟩ := h.ahead
  have H := Lib.hid (is_any p 3 a vb mo s.ahead w c5 hh)
  rw [hx] at H
  obtain ⟨mv, c6, hlook⟩ := h.look a
  rw [ht] at hlook
  simp only [Option.getD_some, Option.isSome_some] at hlook
  have Hf := Lib.hid (show CopyOk p a S s w (.returned (.tuple #[.int .i64 t, .int .i64 0])) w from by
    unfold CopyOk AS.copyA AS.copyE AS.copy; rw [hx, ht]; exact ⟨rfl, Turned.same h (Fr.refl _ _)⟩)
  clear h hh hx c3 c5 ht
  go_enter Try.func35, Try.ntmps35
  go_wp2_with fail
  refine H.out.mono ?_
  rintro e w' ⟨rfl, rfl⟩
  go_wp2
  go_ret2
  exact Hf.out
set_option maxRecDepth 100000 in
set_option maxHeartbeats 400000 in
theorem Copy_full (p : Nat) (a : Int) (S : Nat → Prop) (s : AS) (w : World) (h : IsArena w p S s) (x : Ob) (hx : findOb 0 s.ahead a = some x) (ht : s.moved a = none) (hr : roomB s x.vs.length = false) :
    Calls Try.prog 35 #[.pointer (some ⟨p, 0, none⟩), .int .i64 a] w (CopyOk p a S s w) := by
  obtain ⟨vb, mo, c3, c5, hh⟩ := h.ahead
  have H := Lib.hid (is_any p 3 a vb mo s.ahead w c5 hh)
  rw [hx] at H
  obtain ⟨mv, c6, hlook⟩ := h.look a
  rw [ht] at hlook
  simp only [Option.getD_none, Option.isSome_none] at hlook
  have H2 := Lib.hid (slots_any p 3 a vb mo s.ahead x w c3 hh hx)
  have H3 := Lib.hid (room_any p x.vs.length S s w h)
  rw [hr] at H3
  have Hf := Lib.hid (show ∀ k, CopyOk p a S s w (.returned (.tuple #[.int .i64 0, .int .i64 7])) (w.drewN k) from by
    intro k
    unfold CopyOk AS.copyA AS.copyE AS.copy; rw [hx, ht]; simp only [hr]; exact ⟨rfl, Turned.same (h.drewN k) (Fr.drewN _ _ _)⟩)
  clear h hh hx c3 c5 ht hr
  go_enter Try.func35, Try.ntmps35
  go_wp2_with fail
  refine H.out.mono ?_
  rintro e w' ⟨rfl, rfl⟩
  go_wp2_with fail
  refine H2.out.mono ?_
  rintro e w' ⟨rfl, rfl⟩
  go_wp2_with fail
  refine H3.out.mono ?_
  rintro e w' ⟨rfl, k, rfl⟩
  go_wp2
  go_ret2
  exact Hf.out k
end Go.Proofs.Ytniifefmjdjebaa
namespace Go.Proofs.Ytniifefmjdjebaa
open Go.RowKit
set_option linter.unusedVariables false
set_option linter.unusedSimpArgs false

theorem info5s : (Try.prog.info? 5).map (·.size) = some 1 := by kernel_rfl
theorem place_nat (a s : Nat) (w : World) (ha : a ≤ 1048576) (hs : s ≤ 1048576) :
    Calls Try.prog 65 #[.int .i64 a, .int .i64 s] w fun e w' => e = .returned (.int .i64 ((a + 8 + 8 * s : Nat) : Int)) ∧ w' = w := by
  refine (place_any a s w ⟨by omega, by omega⟩ ⟨by omega, by omega⟩).mono ?_
  rintro e w' ⟨rfl, rfl⟩
  exact ⟨by rw [show ((a + 8 + 8 * s : Nat) : Int) = (a : Int) + 8 + 8 * s from by omega], rfl⟩
/-- The bytes of a copy. -/
theorem encs_copy (l : List Ob) (x : Ob) : (encs (l ++ [⟨x.kind, List.replicate x.vs.length 0⟩])).take (tot l + 16) ++ x.vs.flatMap w8 ++ (encs (l ++ [⟨x.kind, List.replicate x.vs.length 0⟩])).drop (tot l + 16 + (x.vs.flatMap w8).length) = encs (l ++ [x]) := by
  have e1 : encs (l ++ [⟨x.kind, List.replicate x.vs.length 0⟩]) = (encs l ++ w8 x.kind ++ w8 x.vs.length) ++ List.replicate (8 * x.vs.length) 0 := by
    rw [encs_append, encs_cons]; simp [enc, encs, flat8_zero, List.append_assoc]
  have e2 : (encs l ++ w8 x.kind ++ w8 x.vs.length).length = tot l + 16 := by simp [w8_length, encs_length]
  rw [e1, List.take_left' e2, List.drop_of_length_le (by rw [List.length_append, e2, flat8_length]; simp), encs_append, encs_cons]
  simp [enc, encs, List.append_assoc]
theorem setRow_grown (w : World) (g : Nat) (cs : Array Value) : w.grownBy (w.setRow g cs) (some g) := ⟨rfl, rfl, rfl, by simp [World.setRow], fun k _ h => setRow_other w g k cs (fun e => h (by rw [e]))⟩
theorem encs_slots_all (l1 : List Ob) (x : Ob) (l2 : List Ob) : ((encs (l1 ++ x :: l2)).drop (tot l1 + 16)).take (8 * x.vs.length) = x.vs.flatMap w8 := by
  rw [encs_at, ← encs_length, ← List.drop_drop, List.drop_left, ← List.append_assoc, List.drop_left' (by simp [w8_length]), List.take_append_of_le_length (by rw [flat8_length]; omega), List.take_of_length_le (by rw [flat8_length]; omega)]
/-- The arena behind the copying of an object's slots. -/
theorem IsArena.filled {w : World} {p : Nat} {S : Nat → Prop} {s : AS} {l : List Ob} {x : Ob} (h : IsArena w p S { s with used := l ++ [⟨x.kind, List.replicate x.vs.length 0⟩] }) (hok : x.ok)
    {g cap : Nat} {cur : Array Value} (hc : w.cell? ⟨p, 0, none⟩ = some (.slice (some ⟨g, 0, none⟩) (tot l + 16 + 8 * x.vs.length) cap)) (hg : w.heap[g]? = some (.cells cur 5 (0, 0))) :
    IsArena (w.setRow g (cur.toList.take (tot l + 16) ++ ((x.vs.flatMap w8).map (Value.int .u8) ++ cur.toList.drop (tot l + 16 + ((x.vs.flatMap w8).map (Value.int .u8)).length))).toArray) p S { s with used := l ++ [x] } ∧
      Fr S w (w.setRow g (cur.toList.take (tot l + 16) ++ ((x.vs.flatMap w8).map (Value.int .u8) ++ cur.toList.drop (tot l + 16 + ((x.vs.flatMap w8).map (Value.int .u8)).length))).toArray) := by
  obtain ⟨vb, m, hc0, _, h1⟩ := h.used
  have ht : tot (l ++ [(⟨x.kind, List.replicate x.vs.length 0⟩ : Ob)]) = tot l + 16 + 8 * x.vs.length := by rw [tot_append, tot_cons, tot_nil]; simp [Ob.size]; omega
  have ht' : tot (l ++ [x]) = tot l + 16 + 8 * x.vs.length := by rw [tot_append, tot_cons, tot_nil]; simp [Ob.size]; omega
  rw [hc] at hc0
  obtain rfl := Option.some.inj hc0
  have hb := h1.bytes
  simp only [encs_length] at hb
  rw [ht] at hb
  have hr := row_splice hb hg (tot l + 16) ((x.vs.flatMap w8).map (Value.int .u8)) (by rw [List.length_map, flat8_length]; omega)
  rw [← List.map_take, ← List.map_drop, ← List.map_append, ← List.map_append, List.length_map] at hr
  rw [encs_copy] at hr
  refine h.turned hc (setRow_grown w g _) ?_ ?_ ?_ ?_ ?_
  · rw [encs_length, ht', List.length_map]; exact hr
  · intro k
    show (findOb 0 (l ++ [x]) k).isSome = (findOb 0 (l ++ [⟨x.kind, List.replicate x.vs.length 0⟩]) k).isSome
    rw [findOb_append, findOb_append]; split <;> rfl
  · show addrs 0 (l ++ [x]) = addrs 0 (l ++ [_])
    rw [addrs_append, addrs_append]
  · exact ht'.trans ht.symm
  · intro y hy
    rcases List.mem_append.1 hy with hy | hy
    · exact h1.ok y (List.mem_append.2 (.inl hy))
    · obtain rfl : y = x := by simpa using hy
      exact hok
set_option maxRecDepth 100000 in
set_option maxHeartbeats 1000000 in
theorem Copy_new (p : Nat) (a : Int) (S : Nat → Prop) (s : AS) (w : World) (h : IsArena w p S s) (x : Ob) (hx : findOb 0 s.ahead a = some x) (ht : s.moved a = none) (hr : roomB s x.vs.length = true) :
    Calls Try.prog 35 #[.pointer (some ⟨p, 0, none⟩), .int .i64 a] w (CopyOk p a S s w) := by
  obtain ⟨vb, mo, c3, c5, hh⟩ := h.ahead
  have H := Lib.hid (is_any p 3 a vb mo s.ahead w c5 hh)
  rw [hx] at H
  obtain ⟨mv, c6, hlook⟩ := h.look a
  rw [ht] at hlook
  simp only [Option.getD_none, Option.isSome_none] at hlook
  have H2 := Lib.hid (slots_any p 3 a vb mo s.ahead x w c3 hh hx)
  have H3 := Lib.hid (room_any p x.vs.length S s w h)
  rw [hr] at H3
  obtain ⟨a1, a2, a3, hok, _⟩ := hh.word hx
  have hsl : ((encs s.ahead).drop (a.toNat + 8)).take (8 * x.vs.length) = x.vs.flatMap w8 := by
    obtain ⟨l1, l2, e1, e2⟩ := findOb_split _ _ _ _ hx
    rw [e1, show a.toNat + 8 = tot l1 + 16 from by omega]
    exact encs_slots_all l1 x l2
  have Hsl0 := Lib.hid hsl
  clear hsl
  have Hf := Lib.hid (show ∀ w', Turned w w' p S (s.copied a x) → CopyOk p a S s w (.returned (.tuple #[.int .i64 (tot s.used + 8), .int .i64 0])) w' from by
    intro w' hT
    unfold CopyOk AS.copyA AS.copyE AS.copy; rw [hx, ht]; simp only [hr, if_true]; exact ⟨trivial, hT⟩)
  have H4 := Lib.hid (fun k => kind_any p 3 a vb mo s.ahead x (w.drewN k) c3 (hh.keep (Fr.drewN (fun _ => False) w k) (fun _ _ e => e) (fun _ _ e => e)) hx)
  have H5 := Lib.hid (fun k => lay_arena p x.kind x.vs.length S s (w.drewN k) (h.drewN k) hok.1 (by omega) (by have := hok.2.1; omega) hr)
  have Ha := Lib.hid h
  clear h hh hx c3 c5 ht hr
  go_enter Try.func35, Try.ntmps35
  go_wp2_with fail
  refine H.out.mono ?_
  rintro e w' ⟨rfl, rfl⟩
  go_wp2_with fail
  refine H2.out.mono ?_
  rintro e w' ⟨rfl, rfl⟩
  go_wp2_with fail
  refine H3.out.mono ?_
  rintro e w1 ⟨rfl, k, rfl⟩
  go_wp2_with fail
  go_still_tail 9, (by kernel_rfl)
  still_call (H4.out (k + 1))
  repeat still_step
  refine wpStill_nil ?_
  change wpList _ _ _ _ _ (w'.drewN (k + 1))
  go_wp2_with fail
  refine (H5.out (k + 1)).mono ?_
  rintro e w3 ⟨rfl, ht3⟩
  have Ht3 := Lib.hid ht3.drewN; clear ht3
  go_wp2_with fail
  obtain ⟨S3, hA3, hfr3, hS3⟩ := Ht3.out
  rw [Int.toNat_natCast] at hA3
  have HA3 := Lib.hid hA3
  have HT3 := Lib.hid (And.intro hfr3 hS3)
  obtain ⟨vb3, vl3, m3, vb4, vl4, mo4, mv4, hp3, g1, g2, g3, g4, g5, g6, g7, g8, g9, g10, g11, hS4⟩ := hA3
  have hL : (encs (s.used ++ [(⟨x.kind, List.replicate x.vs.length 0⟩ : Ob)])).length = tot s.used + 16 + 8 * x.vs.length := by
    rw [encs_length, tot_append, tot_cons, tot_nil]; simp [Ob.size]; omega
  have hL2 := encs_length s.ahead
  have hsm := g1.small
  simp only at hsm
  rw [← encs_length, hL] at hsm
  obtain ⟨g, cap, cur, rfl, hg, hgc, hcm⟩ := row_addr g1.bytes (by simp only; rw [hL]; omega)
  have hcs : tot s.used + 16 + 8 * x.vs.length ≤ cur.size := by
    rcases g1.bytes.2 with ⟨h0, _⟩ | ⟨g', cap', cur', h1, _, h2, h3, _, h5, _⟩
    · simp at h0
    · simp only [Value.slice.injEq, Option.some.injEq, Addr.mk.injEq, and_true, true_and] at h1
      obtain ⟨rfl, rfl⟩ := h1
      rw [hg] at h2
      simp only [Option.some.injEq, Obj.cells.injEq, and_true] at h2
      obtain rfl := h2
      simp only at h3
      omega
  have Hcs := Lib.hid hcs
  clear hcs
  obtain ⟨ga, capa, cura, rfl, hga, hgca, hcma⟩ := row_addr g3.bytes (by simp only; omega)
  have hbs := g3.bytes
  simp only at hgc hgca hbs
  rw [hL] at hgc
  rw [hL2] at hgca
  have d0 := blk_cell hp3 0
  have d3 := blk_cell hp3 3
  simp only [List.getElem?_toArray, List.getElem?_cons_succ, List.getElem?_cons_zero, hL, hL2] at d0 d3
  have hm1 : cap ≤ 9223372036854775807 := by simpa [maxLen] using hcm
  have hm2 : capa ≤ 9223372036854775807 := by simpa [maxLen] using hcma
  have Hok := Lib.hid hok
  have hk2 := hok.2.1
  have hasm := g3.small
  simp only at hasm
  obtain ⟨ka, hka⟩ := Int.eq_ofNat_of_zero_le (show 0 ≤ a by omega)
  have Hbs := Lib.hid hbs
  have Hg := Lib.hid hg
  have D0 := Lib.hid d0
  clear hp3 g1 g2 g3 g4 g5 g6 g7 g8 g9 g10 g11 hS4 hga hL hL2 hok hbs hg hfr3 hS3
  subst hka
  obtain ⟨D, hD⟩ : ∃ D, D = tot s.used + 16 := ⟨_, rfl⟩
  obtain ⟨L0, hL0⟩ : ∃ D, D = ka + 8 := ⟨_, rfl⟩
  obtain ⟨L1, hL1⟩ : ∃ D, D = ka + 8 + 8 * x.vs.length := ⟨_, rfl⟩
  have P1 := Lib.hid (fun W => (place_any ((tot s.used : Int) + 8) 0 W ⟨by omega, by omega⟩ ⟨by omega, by omega⟩).mono (R' := fun e w' => e = .returned (.int .i64 D) ∧ w' = W) (by rintro e w' ⟨rfl, rfl⟩; exact ⟨by rw [show (tot s.used : Int) + 8 + 8 + 8 * 0 = (D : Int) from by omega], rfl⟩))
  have P2 := Lib.hid (fun W => (place_any (ka : Int) 0 W ⟨by omega, by omega⟩ ⟨by omega, by omega⟩).mono (R' := fun e w' => e = .returned (.int .i64 L0) ∧ w' = W) (by rintro e w' ⟨rfl, rfl⟩; exact ⟨by rw [show (ka : Int) + 8 + 8 * 0 = (L0 : Int) from by omega], rfl⟩))
  have P3 := Lib.hid (fun W => (place_any (ka : Int) x.vs.length W ⟨by omega, by omega⟩ ⟨by omega, by omega⟩).mono (R' := fun e w' => e = .returned (.int .i64 L1) ∧ w' = W) (by rintro e w' ⟨rfl, rfl⟩; exact ⟨by rw [show (ka : Int) + 8 + 8 * x.vs.length = (L1 : Int) from by omega], rfl⟩))
  obtain ⟨M, hM⟩ : ∃ M, M = tot s.used + 16 + 8 * x.vs.length := ⟨_, rfl⟩
  rw [← hM] at d0
  have i1 : D ≤ M := by omega
  have i0 : M ≤ cap := by omega
  have i2 : L0 ≤ L1 := by omega
  have i3 : L1 ≤ capa := by omega
  have HD := Lib.hid hD
  have hsl : ((encs s.ahead).drop L0).take (8 * x.vs.length) = x.vs.flatMap w8 := by rw [hL0]; exact Hsl0.out
  have Hsl := Lib.hid hsl
  clear hsl
  have HL := Lib.hid (And.intro hL0 hL1)
  have i4 : L1 - L0 = 8 * x.vs.length := by omega
  have i5 : M - D = 8 * x.vs.length := by omega
  have I4 := Lib.hid (And.intro i4 (And.intro i5 hM))
  by_cases hn : x.vs.length = 0
  · have Hn := Lib.hid hn
    clear i4 i5 hD hL0 hL1 hn hM
    go_still_tail 19, (by kernel_rfl)
    still_call (P1.out _)
    repeat still_step
    still_call (P2.out _)
    repeat still_step
    still_call (P3.out _)
    repeat still_step
    refine wpStill_nil ?_
    change wpList _ _ _ _ _ (w3.drewN 1)
    refine wpList_copy_nothing rfl _ _ 33 33 rfl 5 und33 info5s _ _ _ _ _ _ rfl rfl (by rw [I4.out.1, Hn.out]; simp) ?_
    have hA5 : IsArena (w3.drewN 1) p S3 { s with used := s.used ++ [x] } := by
      have h0 := HA3.out.drewN 1
      have hxv : x.vs = [] := List.eq_nil_of_length_eq_zero Hn.out
      rw [show (⟨x.kind, List.replicate x.vs.length 0⟩ : Ob) = x from by cases x; simp at hxv; subst hxv; rfl] at h0
      exact h0
    have hfr5 : Fr S3 w3 (w3.drewN 1) := Fr.drewN _ _ _
    obtain ⟨W5, hW5⟩ : ∃ W, W = w3.drewN 1 := ⟨_, rfl⟩
    rw [← hW5] at hA5 hfr5 ⊢
    clear hW5
    obtain ⟨mv5, o5, k6, hput, hA6, hfr6⟩ := hA5.marked (ka : Int) ((tot s.used : Int) + 8)
    have hput5 := hput W5 rfl
    have Hfin := Lib.hid (Hf.out _ ⟨S3, hA6, ((HT3.out.1.trans hfr5 (fun _ h => h) (fun i hi h => (HT3.out.2 i h).elim id (fun h => by omega))).trans hfr6 (fun _ h => h) (fun i hi h => (HT3.out.2 i h).elim id (fun h => by omega))), HT3.out.2⟩)
    clear hput hA6 hfr6 hA5 hfr5 c6 hlook
    go_wp2
    all_goals (go_ret2; exact Hfin.out)
  · have hne1 : ¬ cap = D := by omega
    have hne2 : ¬ capa = L0 := by omega
    have Hn := Lib.hid hn
    clear i4 i5 hD hL0 hL1 hn hM
    go_still_tail 19, (by kernel_rfl)
    still_call (P1.out _)
    repeat still_step
    still_call (P2.out _)
    repeat still_step
    still_call (P3.out _)
    repeat still_step
    refine wpStill_nil ?_
    change wpList _ _ _ _ _ (w3.drewN 1)
    refine wpList_copy_own rfl _ _ 33 33 rfl 5 und33 info5s g D _ _ ⟨ga, L0, none⟩ _ _ rfl rfl cur 5 Hg.out ((x.vs.flatMap w8).map (Value.int .u8)) ?q1 ?q2 ?q3 ?q4 ?_
    case q1 => rw [List.length_map, flat8_length, I4.out.1, I4.out.2.1]; exact (Nat.min_self _).symm
    case q2 =>
      intro j v hj
      have hjl : j < 8 * x.vs.length := by
        have := (List.getElem?_eq_some_iff.1 hj).1
        rw [List.length_map, flat8_length] at this
        exact this
      rw [show (⟨ga, L0, none⟩ : Addr).add j = ⟨ga, L0 + j, none⟩ from by unfold Addr.add; split <;> simp_all]
      have hw : ((encs s.ahead).drop L0).take (8 * x.vs.length) = x.vs.flatMap w8 := Hsl.out
      have he : (encs s.ahead)[L0 + j]? = (x.vs.flatMap w8)[j]? := by rw [← hw, List.getElem?_take_of_lt hjl, List.getElem?_drop]
      refine row_cell (w := w3.drewN 1) Hbs.out ?_
      rw [List.getElem?_map, he, ← List.getElem?_map]; exact hj
    case q3 =>
      rw [List.length_map, flat8_length]
      have h0 := Hcs.out
      have h1 := HD.out
      omega
    case q4 => intro v hv; obtain ⟨y, _, rfl⟩ := List.mem_map.1 hv; rfl
    have hA5 := ((HA3.out.drewN 1).filled Hok.out (D0.out) Hg.out)
    rw [← HD.out] at hA5
    obtain ⟨W5, hW5⟩ : ∃ W, W = (w3.drewN 1).setRow g (cur.toList.take D ++ ((x.vs.flatMap w8).map (Value.int .u8) ++ cur.toList.drop (D + ((x.vs.flatMap w8).map (Value.int .u8)).length))).toArray := ⟨_, rfl⟩
    rw [← hW5] at hA5 ⊢
    clear hW5
    obtain ⟨hA5, hfr5⟩ := hA5
    have hfr5 := (Fr.drewN S3 w3 1).trans hfr5 (fun _ h => h) (fun _ _ h => h)
    obtain ⟨mv5, o5, k6, hput, hA6, hfr6⟩ := hA5.marked (ka : Int) ((tot s.used : Int) + 8)
    have hput5 := hput W5 rfl
    have Hfin := Lib.hid (Hf.out _ ⟨S3, hA6, ((HT3.out.1.trans hfr5 (fun _ h => h) (fun i hi h => (HT3.out.2 i h).elim id (fun h => by omega))).trans hfr6 (fun _ h => h) (fun i hi h => (HT3.out.2 i h).elim id (fun h => by omega))), HT3.out.2⟩)
    clear hput hA6 hfr6 hA5 hfr5 c6 hlook
    go_wp2
    all_goals (go_ret2; exact Hfin.out)
/-- 'Copy'. -/
theorem Copy_any (p : Nat) (a : Int) (S : Nat → Prop) (s : AS) (w : World) (h : IsArena w p S s) :
    Calls Try.prog 35 #[.pointer (some ⟨p, 0, none⟩), .int .i64 a] w fun e w' => e = .returned (.tuple #[.int .i64 (s.copyA a), .int .i64 (s.copyE a)]) ∧ Turned w w' p S (s.copy a) := by
  cases hx : findOb 0 s.ahead a with
  | none => exact Copy_none p a S s w h hx
  | some x =>
    cases ht : s.moved a with
    | some t => exact Copy_again p a S s w h x hx t ht
    | none =>
      cases hr : roomB s x.vs.length with
      | false => exact Copy_full p a S s w h x hx ht hr
      | true => exact Copy_new p a S s w h x hx ht hr
end Go.Proofs.Ytniifefmjdjebaa
namespace Go.Proofs.Ytniifefmjdjebaa
open Go.RowKit
set_option linter.unusedVariables false
set_option linter.unusedSimpArgs false

/-- A turned arena, taken apart. -/
theorem Turned.frN {w w' : World} {p : Nat} {S : Nat → Prop} {s : AS} (h : Turned w w' p S s) {w0 : World} (h0 : Fr (fun _ => False) w0 w) (hS : ∀ k, S k → w0.heap.size ≤ k) :
    ∃ S', IsArena w' p S' s ∧ Fr (fun _ => False) w0 w' ∧ ∀ k, S' k → w0.heap.size ≤ k := by
  obtain ⟨S', h1, h2, h3⟩ := h
  refine ⟨S', h1, h0.trans h2 (fun _ h => h) (fun i hi h => by have := hS i h; omega), fun k hk => ?_⟩
  rcases h3 k hk with h | h
  · exact hS k h
  · have := h0.size; omega
set_option maxRecDepth 100000 in
set_option maxHeartbeats 1000000 in
theorem known_any (w : World) : Calls Try.prog 19 #[] w fun e w' => e = .returned (.bool true) ∧ Fr (fun _ => False) w w' := by
  have E := Lib.hid (show (AS.new 256).makeA 2 = 8 ∧ (AS.new 256).makeE 2 = 0 ∧ ((AS.new 256).make 1 2).makeA 0 = 40 ∧ ((AS.new 256).make 1 2).makeE 0 = 0 from by decide)
  generalize hs1 : (AS.new 256).make 1 2 = s1 at E
  generalize hs2 : s1.make (-1) 0 = s2
  have E2 := Lib.hid (show (AS.copyA ⟨[], s2.used, fun _ => none, s2.semi⟩ 40) = 8 ∧ (AS.copyE ⟨[], s2.used, fun _ => none, s2.semi⟩ 40) = 0 from by rw [← hs2, ← hs1]; decide)
  generalize hs3 : AS.copy ⟨[], s2.used, fun _ => none, s2.semi⟩ 40 = s3
  have E3 := Lib.hid (show s3.copyA 8 = 24 ∧ s3.copyE 8 = 0 from by rw [← hs3, ← hs2, ← hs1]; decide)
  generalize hs4 : s3.copy 8 = s4
  have E4 := Lib.hid (show tot s4.used = 48 from by rw [← hs4, ← hs3, ← hs2, ← hs1]; decide)
  have Hs := Lib.hid (And.intro hs1 (And.intro hs2 (And.intro hs3 hs4)))
  clear hs1 hs2 hs3 hs4
  go_enter Try.func19, Try.ntmps19
  go_wp2_with fail
  refine (New_any 256 _ (by omega) (by omega)).mono ?_
  rintro e w1 ⟨p, S, rfl, hA, hfr, hS⟩
  have H1 := Lib.hid (And.intro hA (And.intro hfr hS)); clear hA hfr hS
  go_wp2_with fail
  refine (Make_any p 1 2 S _ _ H1.out.1 ⟨by omega, by omega⟩).mono ?_
  rw [Hs.out.1, E.out.1, E.out.2.1]
  rintro e w2 ⟨rfl, ht⟩
  have H2 := Lib.hid (ht.frN H1.out.2.1 H1.out.2.2); clear ht H1 S
  go_wp2_with fail
  obtain ⟨S, hA, hfr, hS⟩ := H2.out
  refine (Make_any p (-1) 0 S _ _ hA ⟨by omega, by omega⟩).mono ?_
  rw [Hs.out.2.1, E.out.2.2.1, E.out.2.2.2]
  rintro e w3 ⟨rfl, ht⟩
  have H3 := Lib.hid (ht.frN hfr hS); clear ht H2 hA hfr hS S
  go_wp2_with fail
  obtain ⟨S, hA, hfr, hS⟩ := H3.out
  refine (Flip_any p S _ _ hA).mono ?_
  rintro e w4 ⟨rfl, ht⟩
  have H4 := Lib.hid (ht.frN hfr hS); clear ht H3 hA hfr hS S
  go_wp2_with fail
  obtain ⟨S, hA, hfr, hS⟩ := H4.out
  refine (Copy_any p 40 S _ _ hA).mono ?_
  rw [Hs.out.2.2.1, E2.out.1, E2.out.2]
  rintro e w5 ⟨rfl, ht⟩
  have H5 := Lib.hid (ht.frN hfr hS); clear ht H4 hA hfr hS S
  go_wp2_with fail
  obtain ⟨S, hA, hfr, hS⟩ := H5.out
  refine (Copy_any p 8 S _ _ hA).mono ?_
  rw [Hs.out.2.2.2, E3.out.1, E3.out.2]
  rintro e w6 ⟨rfl, ht⟩
  have H6 := Lib.hid (ht.frN hfr hS); clear ht H5 hA hfr hS S
  go_wp2_with fail
  obtain ⟨S, hA, hfr, hS⟩ := H6.out
  refine (Used_any p S _ _ hA).mono ?_
  rw [E4.out]
  rintro e w7 ⟨rfl, rfl⟩
  have Hf := Lib.hid hfr
  clear hA hfr hS H6
  go_wp2
  go_ret
  exact ⟨rfl, Hf.out⟩
theorem tmod_cases (a n : Int) (h0 : a < 0) (hn : 1 ≤ n) : (a.tmod n = 0 ∧ a % n = 0) ∨ (a.tmod n < 0 ∧ a.tmod n + n = a % n) := by
  have hr := Int.emod_nonneg a (show n ≠ 0 by omega)
  have hlt := Int.emod_lt_of_pos a (show 0 < n by omega)
  have h := Int.tmod_eq_emod (a := a) (b := n)
  by_cases hd : n ∣ a
  · left
    have := Int.emod_eq_zero_of_dvd hd
    rw [if_pos (.inr hd)] at h
    omega
  · right
    rw [if_neg (by rintro (h | h); omega; exact hd h)] at h
    omega
set_option maxHeartbeats 400000 in
theorem within_any (a n : Int) (w : World) (ha : I64 a) (hn : 1 ≤ n) (hm : n ≤ 1048576) : Calls Try.prog 20 #[.int .i64 a, .int .i64 n] w fun e w' => e = .returned (.int .i64 (a % n)) ∧ w' = w := by
  obtain ⟨h1, h2⟩ := ha
  have hr := Int.emod_nonneg a (show n ≠ 0 by omega)
  have hlt := Int.emod_lt_of_pos a (show 0 < n by omega)
  have hne : (n == 0) = false := by simp; omega
  by_cases h0 : 0 ≤ a
  · go_enter Try.func20, Try.ntmps20
    go_wp2
    go_ret
    exact ⟨rfl, rfl⟩
  · rcases tmod_cases a n (by omega) hn with ⟨h3, h4⟩ | ⟨h3, h4⟩
    · have H3 := Lib.hid h3
      have H4 := Lib.hid h4
      have h5 : 0 ≤ a.tmod n := by omega
      have h6 : a.tmod n ≤ 0 := by omega
      clear h3 h4
      go_enter Try.func20, Try.ntmps20
      go_wp2
      go_ret
      exact ⟨by rw [H4.out, ← H3.out]; rfl, rfl⟩
    · have H4 := Lib.hid h4
      have h5 : 0 ≤ a.tmod n + n := by omega
      have h6 : a.tmod n + n ≤ n := by omega
      clear h4
      go_enter Try.func20, Try.ntmps20
      go_wp2
      go_ret
      exact ⟨by rw [← H4.out]; rfl, rfl⟩
end Go.Proofs.Ytniifefmjdjebaa
namespace Go.Proofs.Ytniifefmjdjebaa
open Go.RowKit
set_option linter.unusedVariables false
set_option linter.unusedSimpArgs false

/-- A call of an arena, as the laws get it. -/
structure CallD where
  kind : Int
  n : Int
  m : Int
  at_ : Int
  v : Int
def CallD.fit (c : CallD) : Prop := I64 c.kind ∧ I64 c.n ∧ I64 c.m ∧ I64 c.at_ ∧ I64 c.v
/-- Calls in a slice that came in. -/
structure CallsIn (w : World) (a : Option Addr) (len : Nat) (c : Nat → CallD) : Prop where
  small : len ≤ 9223372036854775807
  cells : 0 < len → ∃ b off, a = some ⟨b, off, none⟩ ∧ ∀ i, i < len → w.cell? ⟨b, off + i * 5, none⟩ = some (.int .i64 (c i).kind) ∧ w.cell? ⟨b, off + i * 5 + 1, none⟩ = some (.int .i64 (c i).n) ∧
    w.cell? ⟨b, off + i * 5 + 2, none⟩ = some (.int .i64 (c i).m) ∧ w.cell? ⟨b, off + i * 5 + 3, none⟩ = some (.int .i64 (c i).at_) ∧ w.cell? ⟨b, off + i * 5 + 4, none⟩ = some (.int .i64 (c i).v)
  fit : ∀ i, i < len → (c i).fit
theorem CallsIn.keep {w w' : World} {a : Option Addr} {len : Nat} {c : Nat → CallD} (h : CallsIn w a len c) (hf : Fr (fun _ => False) w w') : CallsIn w' a len c :=
  ⟨h.small, fun h0 => by
    obtain ⟨b, off, e, hc⟩ := h.cells h0
    exact ⟨b, off, e, fun i hi => let ⟨h1, h2, h3, h4, h5⟩ := hc i hi; ⟨hf.cell h1 id, hf.cell h2 id, hf.cell h3 id, hf.cell h4 id, hf.cell h5 id⟩⟩, h.fit⟩
def madeK (s : AS) (c : Nat → CallD) : Nat → AS
  | 0 => s
  | k + 1 => (madeK s c k).make (c k).n ((c k).m % 20)
def madeS (semi : Int) (c : Nat → CallD) (len : Nat) : AS := madeK (AS.new (256 + semi % 8000)) c (min len 60)
def MadeOk (w : World) (s : AS) (e : Ending) (w' : World) : Prop := ∃ p S, e = .returned (.pointer (some ⟨p, 0, none⟩)) ∧ IsArena w' p S s ∧ Fr (fun _ => False) w w' ∧ ∀ k, S k → w.heap.size ≤ k
set_option maxRecDepth 100000 in
set_option maxHeartbeats 1000000 in
theorem made_any (semi : Int) (a1 : Option Addr) (len1 cap1 : Nat) (c : Nat → CallD) (w : World) (hs : I64 semi) (h1 : CallsIn w a1 len1 c) :
    Calls Try.prog 26 #[.int .i64 semi, .slice a1 len1 cap1] w (MadeOk w (madeS semi c len1)) := by
  have hr1 := Int.emod_nonneg semi (show (8000 : Int) ≠ 0 by omega)
  have hr2 := Int.emod_lt_of_pos semi (show (0 : Int) < 8000 by omega)
  have hsm := h1.small
  have HI := Lib.hid h1; clear h1
  obtain ⟨s0, hs0⟩ : ∃ s0, s0 = AS.new (256 + semi % 8000) := ⟨_, rfl⟩
  have Hm := Lib.hid (show madeS semi c len1 = madeK s0 c (min len1 60) from by rw [hs0]; rfl)
  go_enter Try.func26, Try.ntmps26
  go_wp2_with fail
  refine (within_any semi 8000 _ hs (by omega) (by omega)).mono ?_
  rintro e w2 ⟨rfl, rfl⟩
  obtain ⟨sm, hsm2⟩ : ∃ sm, sm = semi % 8000 := ⟨_, rfl⟩
  rw [← hsm2] at hr1 hr2 hs0 ⊢
  have Hs0 := Lib.hid hs0
  clear hsm2 hs0
  go_wp2_with fail
  refine (New_any (256 + sm) _ (by omega) (by omega)).mono ?_
  rintro e w3 ⟨p, S, rfl, hA, hfr, hS⟩
  have H0 := Lib.hid (And.intro hA (And.intro hfr hS))
  clear hA hfr hS
  go_wp2_with fail
  go_loopw [7] (fun i wr => ∃ (k : Nat) (S : Nat → Prop), k ≤ 60 ∧ k ≤ len1 ∧ i = .int .i64 k ∧ IsArena wr p S (madeK s0 c k) ∧ Fr (fun _ => False) w2 wr ∧ (∀ j, S j → w2.heap.size ≤ j)) (fun i _ => (60 - intOf i).toNat)
  case atStart => exact ⟨0, S, by omega, by omega, rfl, by rw [Hs0.out]; exact H0.out.1, H0.out.2.1, H0.out.2.2⟩
  case round =>
    obtain ⟨k, S, hk, hk2, rfl, hA, hF, hS⟩ := hrel
    have HA := Lib.hid (And.intro hA (And.intro hF hS))
    clear hA hF hS
    by_cases hlt : k < len1 ∧ k < 60
    · obtain ⟨hlt, hlt2⟩ := hlt
      obtain ⟨b, off, rfl, hc⟩ := (HI.out.keep HA.out.2.1).cells (by omega)
      obtain ⟨e1, e2, e3, e4, e5⟩ := hc k hlt
      obtain ⟨f1, f2, f3, f4, f5⟩ := HI.out.fit k hlt
      clear hc e1 e4 e5
      have Hst := Lib.hid (show (madeK s0 c k).make (c k).n ((c k).m % 20) = madeK s0 c (k + 1) from rfl)
      have Hf := Lib.hid (And.intro f2 f3)
      clear f1 f2 f3 f4 f5
      go_wp2_with fail
      go_still_tail 12, (by kernel_rfl)
      still_call (within_any (c k).m 20 _ Hf.out.2 (by omega) (by omega))
      repeat still_step
      refine wpStill_nil ?_
      change wpList _ _ _ _ _ (wr.drewN 1)
      go_wp2_with fail
      refine (Make_any p (c k).n ((c k).m % 20) S _ _ (HA.out.1.drewN 1) Hf.out.1).mono ?_
      rw [Hst.out]
      rintro e w4 ⟨rfl, ht⟩
      have Ht := Lib.hid (ht.drewN.frN HA.out.2.1 HA.out.2.2)
      clear ht
      go_wp2
      go_roundw
      case rel =>
        obtain ⟨S', g1, g2, g3⟩ := Ht.out
        exact ⟨k + 1, S', by omega, by omega, by go_num, g1, g2, g3⟩
      case measure => simp [intOf]; omega
    · have Hfin := Lib.hid (show MadeOk w2 (madeS semi c len1) (.returned (.pointer (some ⟨p, 0, none⟩))) wr from ⟨p, S, rfl, by rw [Hm.out, show min len1 60 = k from by omega]; exact HA.out.1, HA.out.2⟩)
      by_cases hlt1 : k < len1
      · have hlt2 : ¬ k < 60 := by omega
        clear hlt
        go_wp2
        go_ret
        exact Hfin.out
      · clear hlt
        go_wp2
        go_ret
        exact Hfin.out

def sameW (xs ys : List Int) : Bool := decide (xs = ys)
theorem take_succ_ne {xs ys : List Int} {k : Nat} (h1 : k < xs.length) (h2 : k < ys.length) (he : xs.take k = ys.take k) (h : xs[k]?.getD 0 = ys[k]?.getD 0) : xs.take (k + 1) = ys.take (k + 1) := by
  rw [List.getElem?_eq_getElem h1, List.getElem?_eq_getElem h2] at h
  have h' : xs[k] = ys[k] := by simpa using h
  rw [List.take_succ_eq_append_getElem h1, List.take_succ_eq_append_getElem h2, he, h']
/-- The cells of a row of whole numbers. -/
theorem row_int {w : World} {base e g n cap : Nat} {k : IntKind} {xs : List Int} (h : w.ownsRow base e 1 (.slice (some ⟨g, 0, none⟩) n cap) n (xs.map (Value.int k))) {j : Nat} (hj : j < n) : w.cell? ⟨g, j, none⟩ = some (.int k (xs[j]?.getD 0)) := by
  have hl : xs.length = n := by simpa using h.1
  refine row_cell h ?_
  rw [List.getElem?_map, List.getElem?_eq_getElem (by omega)]
  rfl
set_option maxRecDepth 100000 in
set_option maxHeartbeats 1000000 in
theorem SameWords_any (va vb : Value) (xs ys : List Int) (w : World) (h1 : w.ownsRow 0 2 1 va xs.length (xs.map (Value.int .i64))) (h2 : w.ownsRow 0 2 1 vb ys.length (ys.map (Value.int .i64))) :
    Calls Try.prog 29 #[va, vb] w fun e w' => e = .returned (.bool (sameW xs ys)) ∧ ∃ n, w' = w.drewN n := by
  have hma : xs.length ≤ maxLen := by
    rcases h1.2 with ⟨_, h⟩ | ⟨_, _, _, _, _, _, h, h', _⟩ <;> omega
  have hmb : ys.length ≤ maxLen := by
    rcases h2.2 with ⟨_, h⟩ | ⟨_, _, _, _, _, _, h, h', _⟩ <;> omega
  unfold maxLen at hma hmb
  obtain ⟨a1, c1, rfl⟩ := row_form h1
  obtain ⟨a2, c2, rfl⟩ := row_form h2
  by_cases hl : xs.length = ys.length
  · have h1' := Lib.hid h1
    have h2' := Lib.hid h2
    rw [← hl] at h2' hmb ⊢
    have Hl := Lib.hid hl
    clear h1 h2
    have hl2 : ((xs.length : Int) == xs.length) = true := by simp
    clear hl hmb
    go_enter Try.func29, Try.ntmps29
    go_wp2_with fail
    go_loopw [5] (fun i wr => ∃ k : Nat, k ≤ xs.length ∧ i = .int .i64 k ∧ xs.take k = ys.take k ∧ ∃ n, wr = w.drewN n) (fun i _ => (xs.length - intOf i).toNat)
    case atStart => exact ⟨0, by omega, rfl, rfl, 0, rfl⟩
    case round =>
      obtain ⟨k, hk, rfl, he, n, rfl⟩ := hrel
      have He := Lib.hid he; clear he
      by_cases hlt : k < xs.length
      · obtain ⟨g1, q1, _, e1, _, _, _⟩ := row_addr h1'.out (by omega)
        obtain ⟨g2, q2, _, e2, _, _, _⟩ := row_addr h2'.out (by omega)
        simp only [Value.slice.injEq, true_and] at e1 e2
        obtain ⟨rfl, rfl⟩ := e1
        obtain ⟨rfl, rfl⟩ := e2
        have k1 := row_int h1'.out hlt
        have k2 := row_int h2'.out hlt
        by_cases hv : xs[k]?.getD 0 = ys[k]?.getD 0
        · have Hv := Lib.hid (take_succ_ne hlt (by rw [← Hl.out]; exact hlt) He.out hv)
          have hvb : (xs[k]?.getD 0 != ys[k]?.getD 0) = false := by simp [hv]
          generalize xs[k]?.getD 0 = x at *
          generalize ys[k]?.getD 0 = y at *
          clear hv
          go_wp2
          go_quiet (fail)
          go_wp2
          go_roundw
          case rel => exact ⟨k + 1, by omega, by go_num, Hv.out, _, rfl⟩
          case measure => simp [intOf]; omega
        · have Hf := Lib.hid (show sameW xs ys = false from by unfold sameW; rw [decide_eq_false]; intro h; exact hv (by rw [h]))
          have hvb : (xs[k]?.getD 0 != ys[k]?.getD 0) = true := by simpa using hv
          generalize xs[k]?.getD 0 = x at *
          generalize ys[k]?.getD 0 = y at *
          clear hv
          go_wp2
          go_quiet (fail)
          go_wp2
          go_ret
          exact ⟨by rw [Hf.out]; rfl, _, World.drewN_drewN _ _ _⟩
      · have Hf := Lib.hid (show sameW xs ys = true from by
          unfold sameW; rw [decide_eq_true]
          have := He.out
          rw [List.take_of_length_le (by omega), List.take_of_length_le (by rw [← Hl.out]; omega)] at this
          exact this)
        go_wp2
        go_ret
        exact ⟨by rw [Hf.out]; rfl, n, rfl⟩
  · have Hf := Lib.hid (show sameW xs ys = false from by unfold sameW; rw [decide_eq_false]; intro h; exact hl (by rw [h]))
    have hb : ((xs.length : Int) != ys.length) = true := by simp; omega
    clear h1 h2 hl
    go_enter Try.func29, Try.ntmps29
    go_wp2
    go_ret
    exact ⟨by rw [Hf.out]; rfl, 0, rfl⟩

set_option maxHeartbeats 400000 in
/-- The number that eight bytes of a row say. -/
theorem lawNumber_any (a : Int) (vb : Value) (bs : List Int) (n : Int) (w : World) (hown : w.ownsRow 0 5 1 vb bs.length (bs.map (Value.int .u8))) (ha : 0 ≤ a) (hn : I64 n)
    (h8 : (bs.drop a.toNat).take 8 = w8 n) :
    Calls Try.prog 31 #[vb, .int .i64 a] w fun e w' => e = .returned (.int .i64 n) ∧ w' = w := by
  obtain ⟨at', rfl⟩ := Int.eq_ofNat_of_zero_le ha
  rw [Int.toNat_natCast] at h8
  have hlen : at' + 8 ≤ bs.length := by
    have := congrArg List.length h8
    simp [w8_length] at this
    omega
  obtain ⟨g, cap, cur, rfl, hg, hnc, hcm⟩ := row_addr hown (by omega)
  have Hc := Lib.hid (show ∀ i, i < 8 → w.cell? ⟨g, at' + i, none⟩ = some (.int .u8 ((w8 n)[i]?.getD 0)) from by
    intro i hi
    have h1 := row_int hown (j := at' + i) (by omega)
    rw [h1, ← h8, List.getElem?_take_of_lt hi, List.getElem?_drop])
  have hm : bs.length ≤ 9223372036854775807 := by simp only [maxLen] at hcm; omega
  have Hn := Lib.hid hn
  clear hown h8 hg hn
  go_enter Try.func31, Try.ntmps31
  go_wp2
  go_loop [5, 6] (fun v i => ∃ k : Nat, k ≤ 8 ∧ i = .int .i64 (at' + k) ∧ v = .int .u64 (be ((w8 n).take k))) (fun _ i => (at' + 8 - intOf i).toNat)
  case atStart => exact ⟨0, by omega, by go_num, rfl⟩
  case round =>
    obtain ⟨k, hk, rfl, rfl⟩ := hrel
    by_cases hlt : k < 8
    · have hx := Hc.out k hlt
      go_wp2
      go_round
      case rel => exact ⟨k + 1, by omega, by go_num, congrArg (Value.int .u64) (be_step (w8 n) rfl (w8_range n) k hlt)⟩
      case measure => simp [intOf]; omega
    · obtain rfl : k = 8 := by omega
      go_wp2
      go_ret
      exact ⟨congrArg (fun x => Ending.returned (Value.int .i64 x)) ((u64_num (w8 n) rfl (w8_range n)).trans (num_w8 n Hn.out)), rfl⟩
end Go.Proofs.Ytniifefmjdjebaa
namespace Go.Proofs.Ytniifefmjdjebaa
open Go.RowKit
set_option linter.unusedVariables false
set_option linter.unusedSimpArgs false

/-- Whole numbers of 64 bits in a slice that came in. -/
structure IntsIn (w : World) (a : Option Addr) (len : Nat) (z : Nat → Int) : Prop where
  small : len ≤ 9223372036854775807
  cells : 0 < len → ∃ b off, a = some ⟨b, off, none⟩ ∧ ∀ i, i < len → w.cell? ⟨b, off + i, none⟩ = some (.int .i64 (z i))
  fit : ∀ i, i < len → I64 (z i)
theorem IntsIn.keep {w w' : World} {a : Option Addr} {len : Nat} {z : Nat → Int} (h : IntsIn w a len z) (hf : Fr (fun _ => False) w w') : IntsIn w' a len z :=
  ⟨h.small, fun h0 => by obtain ⟨b, off, e, hc⟩ := h.cells h0; exact ⟨b, off, e, fun i hi => hf.cell (hc i hi) id⟩, h.fit⟩
set_option maxRecDepth 100000 in
set_option maxHeartbeats 1000000 in
theorem ArenaFull_any (semi : Int) (a1 : Option Addr) (len1 cap1 : Nat) (z : Nat → Int) (w : World) (hs : I64 semi) (h1 : IntsIn w a1 len1 z) :
    Calls Try.prog 3 #[.int .i64 semi, .slice a1 len1 cap1] w fun e w' => e = .returned (.bool true) ∧ Fr (fun _ => False) w w' := by
  have hr1 := Int.emod_nonneg semi (show (3000 : Int) ≠ 0 by omega)
  have hr2 := Int.emod_lt_of_pos semi (show (0 : Int) < 3000 by omega)
  have hsm := h1.small
  have HI := Lib.hid h1; clear h1
  go_enter Try.func3, Try.ntmps3
  go_wp2_with fail
  refine (known_any _).mono ?_
  rintro e w1 ⟨rfl, hf1⟩
  have HF1 := Lib.hid hf1; clear hf1
  go_wp2_with fail
  refine (within_any semi 3000 _ hs (by omega) (by omega)).mono ?_
  rintro e w2 ⟨rfl, rfl⟩
  obtain ⟨sm, hsm2⟩ : ∃ sm, sm = semi % 3000 := ⟨_, rfl⟩
  rw [← hsm2] at hr1 hr2 ⊢
  clear hsm2
  go_wp2_with fail
  refine (New_any (256 + sm) _ (by omega) (by omega)).mono ?_
  rintro e w3 ⟨p, S, rfl, hA, hfr, hS⟩
  have HF3 := Lib.hid (HF1.out.trans hfr (fun _ h => h) (fun _ _ h => h))
  have hS' : ∀ k, S k → w.heap.size ≤ k := fun k hk => Nat.le_trans HF1.out.size (hS k hk)
  have HA := Lib.hid (And.intro hA hS')
  clear hA hfr hS hS'
  go_wp2_with fail
  go_loopw [7, 8] (fun u i wr => ∃ (k : Nat) (S : Nat → Prop) (s : AS), k ≤ 80 ∧ i = .int .i64 k ∧ u = .int .i64 (tot s.used) ∧ IsArena wr p S s ∧ (s.semi : Int) = 256 + sm ∧ Fr (fun _ => False) w wr ∧ (∀ j, S j → w.heap.size ≤ j)) (fun _ i _ => (80 - intOf i).toNat)
  case atStart => exact ⟨0, S, _, by omega, rfl, rfl, HA.out.1, by simp [AS.new]; omega, HF3.out, HA.out.2⟩
  case round =>
    obtain ⟨k, S, s, hk, rfl, rfl, hA, hsemi, hF, hS⟩ := hrel
    have hsu : tot s.used ≤ 1048576 := by
      obtain ⟨_, _, _, _, _, _, _, _, hh, _⟩ := hA
      exact hh.small
    have Hsemi := Lib.hid hsemi
    have hsemi1 : 256 ≤ (s.semi : Int) := by omega
    have hsemi2 : (s.semi : Int) ≤ 3300 := by omega
    have HA := Lib.hid hA
    have HF := Lib.hid hF
    have HS := Lib.hid hS
    clear hA hF hS hsemi
    by_cases hlt : k < len1
    · by_cases hlt2 : k < 80
      · obtain ⟨b, off, rfl, hc⟩ := (HI.out.keep HF.out).cells (by omega)
        have hcell := hc k hlt
        have hz := HI.out.fit k hlt
        clear hc
        have hz1 := Int.emod_nonneg (z k) (show (50 : Int) ≠ 0 by omega)
        have hz2 := Int.emod_lt_of_pos (z k) (show (0 : Int) < 50 by omega)
        go_wp2_with fail
        refine (within_any (z k) 50 _ hz (by omega) (by omega)).mono ?_
        rintro e w2 ⟨rfl, rfl⟩
        obtain ⟨n, hn⟩ : ∃ n, n = z k % 50 := ⟨_, rfl⟩
        rw [← hn] at hz1 hz2 ⊢
        clear hn hcell hz
        have R1 := Lib.hid (roomB_false (s := s) (n := -1) (by omega))
        have R2 := Lib.hid (roomB_false (s := s) (n := 65537) (by omega))
        by_cases hfit : (tot s.used : Int) + 16 + 8 * n ≤ 256 + sm
        · have R0 := Lib.hid (roomB_true (s := s) (n := n) ⟨by omega, by omega, by have := Hsemi.out; omega⟩)
          have E0 := Lib.hid (show s.makeE n = 0 from by unfold AS.makeE; rw [if_neg (by omega), R0.out]; rfl)
          have A0 := Lib.hid (show s.makeA n = tot s.used + 8 from if_pos E0.out)
          have M0 := Lib.hid (show s.make k n = { s with used := s.used ++ [⟨k, List.replicate n.toNat 0⟩] } from if_pos E0.out)
          go_wp2_with fail
          refine (room_any p n S s _ HA.out).mono ?_
          rw [R0.out]
          rintro e w3 ⟨rfl, k1, rfl⟩
          go_wp2_with fail
          refine (room_any p (-1) S s _ (HA.out.drewN _)).mono ?_
          rw [R1.out]
          rintro e w3 ⟨rfl, k2, rfl⟩
          go_wp2_with fail
          refine (room_any p 65537 S s _ (HA.out.drewN _)).mono ?_
          rw [R2.out]
          rintro e w3 ⟨rfl, k3, rfl⟩
          go_wp2_with fail
          refine (Make_any p k n S s _ (HA.out.drewN _) ⟨by omega, by omega⟩).mono ?_
          rw [E0.out, A0.out, M0.out]
          rintro e w3 ⟨rfl, ht⟩
          have Ht := Lib.hid (ht.drewN.frN HF.out HS.out)
          clear ht
          go_wp2
          go_roundw
          case rel =>
            obtain ⟨S', g1, g2, g3⟩ := Ht.out
            exact ⟨k + 1, S', _, by omega, by go_num, by rw [tot_append, tot_cons, tot_nil]; simp [Ob.size]; omega, g1, Hsemi.out, g2, g3⟩
          case measure => simp [intOf]; omega
        · have R0 := Lib.hid (roomB_false (s := s) (n := n) (by have := Hsemi.out; omega))
          have E0 := Lib.hid (show s.makeE n = 7 from by unfold AS.makeE; rw [if_neg (by omega), R0.out]; rfl)
          have A0 := Lib.hid (show s.makeA n = 0 from if_neg (by rw [E0.out]; decide))
          have M0 := Lib.hid (show s.make k n = s from if_neg (by rw [E0.out]; decide))
          have hb : decide ((tot s.used : Int) + 16 + 8 * n ≤ 256 + sm) = false := by simpa using hfit
          go_wp2_with fail
          refine (room_any p n S s _ HA.out).mono ?_
          rw [R0.out]
          rintro e w3 ⟨rfl, k1, rfl⟩
          go_wp2_with fail
          refine (room_any p (-1) S s _ (HA.out.drewN _)).mono ?_
          rw [R1.out]
          rintro e w3 ⟨rfl, k2, rfl⟩
          go_wp2_with fail
          refine (room_any p 65537 S s _ (HA.out.drewN _)).mono ?_
          rw [R2.out]
          rintro e w3 ⟨rfl, k3, rfl⟩
          go_wp2_with fail
          refine (Make_any p k n S s _ (HA.out.drewN _) ⟨by omega, by omega⟩).mono ?_
          rw [E0.out, A0.out, M0.out]
          rintro e w3 ⟨rfl, ht⟩
          have Ht := Lib.hid (ht.drewN.frN HF.out HS.out)
          clear ht
          go_wp2
          go_roundw
          case rel =>
            obtain ⟨S', g1, g2, g3⟩ := Ht.out
            exact ⟨k + 1, S', s, by omega, by go_num, rfl, g1, Hsemi.out, g2, g3⟩
          case measure => simp [intOf]; omega
      · go_wp2_with fail
        refine (Used_any p S s _ HA.out).mono ?_
        rintro e w2 ⟨rfl, rfl⟩
        go_wp2_with fail
        refine (Bytes_any p S s _ HA.out).mono ?_
        rintro e w3 ⟨v, rfl, hv, hf, _⟩
        obtain ⟨av, cv, rfl⟩ := row_form hv
        have Hl := Lib.hid (show ((encs s.used).map (Value.int .u8)).length = tot s.used from by rw [List.length_map, encs_length])
        have Hf := Lib.hid (HF.out.trans hf (fun _ h => h) (fun _ _ h => h))
        rw [Hl.out] at hv ⊢
        clear hf hv
        go_wp2
        go_ret
        exact ⟨rfl, Hf.out⟩
    · go_wp2_with fail
      refine (Used_any p S s _ HA.out).mono ?_
      rintro e w2 ⟨rfl, rfl⟩
      go_wp2_with fail
      refine (Bytes_any p S s _ HA.out).mono ?_
      rintro e w3 ⟨v, rfl, hv, hf, _⟩
      obtain ⟨av, cv, rfl⟩ := row_form hv
      have Hl := Lib.hid (show ((encs s.used).map (Value.int .u8)).length = tot s.used from by rw [List.length_map, encs_length])
      have Hf := Lib.hid (HF.out.trans hf (fun _ h => h) (fun _ _ h => h))
      rw [Hl.out] at hv ⊢
      clear hf hv
      go_wp2
      go_ret
      exact ⟨rfl, Hf.out⟩
end Go.Proofs.Ytniifefmjdjebaa
namespace Go.Proofs.Ytniifefmjdjebaa
open Go.RowKit
set_option linter.unusedVariables false
set_option linter.unusedSimpArgs false

theorem und9 : Try.prog.underlying 9 = some .string := by kernel_rfl
theorem und5 : Try.prog.underlying 5 = some (.int .u8) := by kernel_rfl
/-- 'string(b)' of an owned row. -/
theorem conv_row {w : World} {n : Nat} {v : Value} {xs : List Int} (h : w.ownsRow 0 5 1 v n (xs.map (Value.int .u8))) : (Go.convert 33 9 v).run Try.prog w = .ok (.string (strOfNums xs)) w := by
  rcases h.2 with ⟨rfl, h0⟩ | ⟨g, cap, cur, rfl, _, _, hnc, _⟩
  · have : xs = [] := by have := h.1; simp at this; exact List.eq_nil_of_length_eq_zero (by omega)
    subst this
    exact run_convert_bytes_nil w 33 5 und33 und5 0 0 9 und9
  · have hl : xs.length = n := by simpa using h.1
    refine run_convert_bytes_arg w 33 5 und33 und5 g 0 n cap xs hl ?_ 9 und9
    intro i hi
    have := row_int h hi
    rw [Nat.zero_add, this, List.getD_eq_getElem?_getD]
/-- 'string(b[:k])', 'string(b[k:])' of an owned row. -/
theorem conv_front {w : World} {n g cap : Nat} {xs : List Int} (h : w.ownsRow 0 5 1 (.slice (some ⟨g, 0, none⟩) n cap) n (xs.map (Value.int .u8))) (k : Nat) (hk : k ≤ n) :
    (Go.convert 33 9 (.slice (some ⟨g, 0, none⟩) k cap)).run Try.prog w = .ok (.string (strOfNums (xs.take k))) w := by
  have hl : xs.length = n := by simpa using h.1
  refine run_convert_bytes_arg w 33 5 und33 und5 g 0 k cap _ (by simp; omega) ?_ 9 und9
  intro i hi
  have := row_int h (j := i) (by omega)
  rw [Nat.zero_add, this, List.getD_eq_getElem?_getD, List.getElem?_take_of_lt hi]
theorem conv_back {w : World} {n g cap : Nat} {xs : List Int} (h : w.ownsRow 0 5 1 (.slice (some ⟨g, 0, none⟩) n cap) n (xs.map (Value.int .u8))) (k : Nat) (hk : k ≤ n) :
    (Go.convert 33 9 (.slice (if cap = k then some ⟨g, 0, none⟩ else some ⟨g, k, none⟩) (n - k) (cap - k))).run Try.prog w = .ok (.string (strOfNums (xs.drop k))) w := by
  have hl : xs.length = n := by simpa using h.1
  have hc : n ≤ cap := by
    rcases h.2 with ⟨h0, _⟩ | ⟨g', cap', cur, h0, _, _, hnc, _⟩
    · simp at h0
    · simp at h0; omega
  split
  · refine run_convert_bytes_arg w 33 5 und33 und5 g 0 (n - k) _ _ (by simp; omega) ?_ 9 und9
    intro i hi
    omega
  · refine run_convert_bytes_arg w 33 5 und33 und5 g k (n - k) _ _ (by simp; omega) ?_ 9 und9
    intro i hi
    rw [row_int h (j := k + i) (by omega), List.getD_eq_getElem?_getD, List.getElem?_drop]
/-- The i-th address. -/
theorem addrs_at (l : List Ob) (i : Nat) (h : i < l.length) : ∃ x, findOb 0 l ((addrs 0 l)[i]?.getD 0) = some x := by
  have hi : i < (addrs 0 l).length := by rw [addrs_length]; exact h
  have hm : (addrs 0 l)[i]?.getD 0 ∈ addrs 0 l := by
    rw [List.getElem?_eq_getElem hi]
    exact List.getElem_mem hi
  have := (mem_addrs l 0 _).1 hm
  exact Option.isSome_iff_exists.1 this
theorem put8_take (bs : List Int) (a : Nat) (n : Int) (h : a + 8 ≤ bs.length) : (put8 bs a n).take a = bs.take a := by
  unfold put8
  rw [List.append_assoc, List.take_left' (by simp; omega)]
theorem put8_drop (bs : List Int) (a : Nat) (n : Int) (h : a + 8 ≤ bs.length) : (put8 bs a n).drop (a + 8) = bs.drop (a + 8) := by
  unfold put8
  rw [List.drop_left' (by simp [w8_length]; omega)]
theorem put8_mid (bs : List Int) (a : Nat) (n : Int) (h : a + 8 ≤ bs.length) : ((put8 bs a n).drop a).take 8 = w8 n := by
  unfold put8
  rw [List.append_assoc, List.drop_left' (by simp; omega), List.take_left' (w8_length n)]
set_option maxRecDepth 100000 in
set_option maxHeartbeats 1000000 in
theorem ArenaPuts_any (semi : Int) (a1 : Option Addr) (len1 cap1 : Nat) (c : Nat → CallD) (at' slot v : Int) (w : World) (hs : I64 semi) (h1 : CallsIn w a1 len1 c) (hat : I64 at') (hslot : I64 slot) (hv : I64 v) :
    Calls Try.prog 5 #[.int .i64 semi, .slice a1 len1 cap1, .int .i64 at', .int .i64 slot, .int .i64 v] w fun e w' => e = .returned (.bool true) ∧ Fr (fun _ => False) w w' := by
  have HI := Lib.hid h1; clear h1
  have Hat := Lib.hid hat; clear hat
  have Hv := Lib.hid hv; clear hv
  obtain ⟨t1, t2⟩ := hslot
  go_enter Try.func5, Try.ntmps5
  go_wp2_with fail
  refine (known_any _).mono ?_
  rintro e w1 ⟨rfl, hf1⟩
  have HF1 := Lib.hid hf1; clear hf1
  go_wp2_with fail
  refine (made_any semi a1 len1 cap1 c _ hs (HI.out.keep HF1.out)).mono ?_
  rintro e w2 ⟨p, S, rfl, hA, hfr, hS⟩
  obtain ⟨s, hsd⟩ : ∃ s, s = madeS semi c len1 := ⟨_, rfl⟩
  rw [← hsd] at hA
  clear hsd
  have HF2 := Lib.hid (HF1.out.trans hfr (fun _ h => h) (fun _ _ h => h))
  have HA := Lib.hid (And.intro hA (show ∀ k, S k → w.heap.size ≤ k from fun k hk => Nat.le_trans HF1.out.size (hS k hk)))
  clear hA hfr hS
  go_wp2_with fail
  refine (All_any p S s _ HA.out.1).mono ?_
  rintro e w3 ⟨vl, rfl, hl, hfr3, hnew3⟩
  have HA3 := Lib.hid (HA.out.1.keep hfr3 (fun _ _ h => h))
  have HF3 := Lib.hid (HF2.out.trans hfr3 (fun _ h => h) (fun _ _ h => h))
  rw [List.length_map, addrs_length] at hl
  have Hl := Lib.hid (And.intro hl hnew3)
  obtain ⟨al, cl, rfl⟩ := row_form hl
  have hlt := len_le_tot s.used
  have hsm : tot s.used ≤ 1048576 := by
    obtain ⟨_, _, _, _, hh⟩ := HA.out.1.used
    exact hh.small
  clear hl hfr3 hnew3
  by_cases hz : s.used.length = 0
  · have hb : ((s.used.length : Int) == 0) = true := by simp [hz]
    have hu : s.used = [] := List.eq_nil_of_length_eq_zero hz
    have E := Lib.hid (show slotE (findOb 0 s.used 8) 0 = 57 from by rw [hu]; rfl)
    have U := Lib.hid (show s.put 8 0 v = s ∧ tot s.used = 0 from by unfold AS.put; rw [E.out, hu]; exact ⟨rfl, rfl⟩)
    clear hz hu
    go_wp2_with fail
    refine (Put_any p 8 0 v S s _ HA3.out Hv.out).mono ?_
    rw [E.out, U.out.1]
    rintro e w4 ⟨rfl, hA4, hf4⟩
    have HF4 := Lib.hid (HF3.out.trans (U := fun _ => False) hf4 (fun _ h => h) (fun i hi h => by have := HA.out.2 i h; omega))
    have HA4 := Lib.hid hA4
    clear hA4 hf4
    go_wp2_with fail
    refine (Used_any p S s _ HA4.out).mono ?_
    rw [U.out.2]
    rintro e w5 ⟨rfl, rfl⟩
    go_wp2
    go_ret
    exact ⟨rfl, HF4.out⟩
  · have hb : ((s.used.length : Int) == 0) = false := by rw [beq_eq_false_iff_ne]; omega
    have hpos : 1 ≤ s.used.length := by omega
    obtain ⟨gl, ql, _, el, _, _, _⟩ := row_addr Hl.out.1 (by omega)
    simp only [Value.slice.injEq, true_and] at el
    obtain ⟨rfl, rfl⟩ := el
    have hr1 := Int.emod_nonneg at' (show (s.used.length : Int) ≠ 0 by omega)
    have hr2 := Int.emod_lt_of_pos at' (show (0 : Int) < s.used.length by omega)
    obtain ⟨i, hi⟩ := Int.eq_ofNat_of_zero_le hr1
    have hil : i < s.used.length := by omega
    have hcx := row_int Hl.out.1 (j := i) hil
    obtain ⟨x, hx⟩ := addrs_at s.used i hil
    obtain ⟨a, ha⟩ : ∃ a, a = (addrs 0 s.used)[i]?.getD 0 := ⟨_, rfl⟩
    rw [← ha] at hx hcx
    have Hcx := Lib.hid hcx
    have Hi := Lib.hid hi
    have Hx := Lib.hid hx
    obtain ⟨vb0, m0, _, _, hh0⟩ := HA.out.1.used
    obtain ⟨b1, b2, b3, hok, _⟩ := hh0.word hx
    have hxl := hok.2.1
    clear hz hi hr1 hr2 hcx ha hx hok hh0
    go_wp2_with fail
    refine (within_any at' s.used.length _ Hat.out (by omega) (by omega)).mono ?_
    rw [Hi.out]
    rintro e w4 ⟨rfl, rfl⟩
    have hcx := Hcx.out
    go_wp2_with fail
    refine (Slots_any p a S s _ HA3.out).mono ?_
    rw [Hx.out, show slotsOf (some x) = (x.vs.length : Int) from rfl, show errI (some x) = 0 from rfl]
    rintro e w5 ⟨rfl, rfl⟩
    clear hcx
    go_wp2_with fail
    refine (Bytes_any p S s _ HA3.out).mono ?_
    rintro e w6 ⟨vw, rfl, hw, hf6, hn6⟩
    have HA6 := Lib.hid (HA3.out.keep hf6 (fun _ _ h => h))
    have HF6 := Lib.hid (HF3.out.trans hf6 (fun _ h => h) (fun _ _ h => h))
    rw [List.length_map, encs_length] at hw
    obtain ⟨aw, cw, rfl⟩ := row_form hw
    have Hw := Lib.hid (And.intro hw hn6)
    clear hw hf6 hn6
    go_wp2_with fail
    refine (Put_any p a slot v S s _ HA6.out Hv.out).mono ?_
    rw [Hx.out]
    have E := Lib.hid (show slotE (some x) slot = if slot < 0 ∨ slot ≥ x.vs.length then 1 else 0 from rfl)
    rintro e w7 ⟨rfl, hA7, hf7⟩
    have HA7 := Lib.hid hA7
    have HF7 := Lib.hid (HF6.out.trans (U := fun _ => False) hf7 (fun _ h => h) (fun i hi h => by have := HA.out.2 i h; omega))
    have Hw7 := Lib.hid (hf7.row Hw.out.1 (fun k hk h => by have := Hw.out.2 k hk; have := HA3.out.lt h; omega))
    clear hA7 hf7
    go_wp2_with fail
    refine (Bytes_any p S _ _ HA7.out).mono ?_
    rintro e w8 ⟨vn, rfl, hn, hf8, hn8⟩
    have HF8 := Lib.hid (HF7.out.trans hf8 (fun _ h => h) (fun _ _ h => h))
    have htp : tot (s.put a slot v).used = tot s.used := by
      unfold AS.put; split
      · exact tot_setOb _ _ _ _ _
      · rfl
    rw [List.length_map, encs_length, htp] at hn
    obtain ⟨an, cn, rfl⟩ := row_form hn
    have Hn8 := Lib.hid hn
    have Hw8 := Lib.hid (hf8.row Hw7.out (fun _ _ h => h))
    clear hn hf8 hn8 htp
    by_cases hbad : slot < 0 ∨ slot ≥ x.vs.length
    · have hs2 : s.put a slot v = s := by unfold AS.put; rw [Hx.out, E.out, if_pos hbad]; rfl
      have k1 := conv_row Hw8.out
      have k2 := conv_row Hn8.out
      rw [hs2] at k2
      rw [E.out, if_pos hbad]
      obtain ⟨T, hT⟩ : ∃ T, T = strOfNums (encs s.used) := ⟨_, rfl⟩
      rw [← hT] at k1 k2
      clear hT hs2
      rcases Classical.em (slot < 0) with h0 | h0
      · clear hbad
        go_wp2
        go_ret
        exact ⟨rfl, HF8.out⟩
      · have h3 : slot ≥ x.vs.length := hbad.elim (fun h => absurd h h0) id
        clear hbad
        go_wp2
        go_ret
        exact ⟨rfl, HF8.out⟩
    · have s0 : 0 ≤ slot := by omega
      have s1 : slot < x.vs.length := by omega
      have hs2 : s.put a slot v = { s with used := setOb 0 s.used a slot.toNat v } := by unfold AS.put; rw [Hx.out, E.out, if_neg hbad]; rfl
      have he2 := (encs_setOb s.used 0 a slot.toNat v x Hx.out (by omega)).2
      rw [show a.toNat + 8 + 8 * slot.toNat - 0 = (a + 8 + 8 * slot).toNat from by omega] at he2
      obtain ⟨q, hq⟩ := Int.eq_ofNat_of_zero_le (show 0 ≤ a + 8 + 8 * slot by omega)
      rw [hq, Int.toNat_natCast] at he2
      have hql : q + 8 ≤ (encs s.used).length := by rw [encs_length]; omega
      have hn9 := Hn8.out
      rw [hs2] at hn9
      simp only [he2] at hn9
      obtain ⟨g1, cap1', _, e1, _, hc1, hm1⟩ := row_addr Hw8.out (by omega)
      obtain ⟨g2, cap2', _, e2, _, hc2, hm2⟩ := row_addr hn9 (by omega)
      simp only [Value.slice.injEq, true_and] at e1 e2
      obtain ⟨rfl, rfl⟩ := e1
      obtain ⟨rfl, rfl⟩ := e2
      rw [E.out, if_neg hbad]
      have N := Lib.hid (lawNumber_any (q : Int) _ (put8 (encs s.used) q v) v w8 (by rw [put8_length _ _ _ hql, encs_length]; exact hn9) (by omega) Hv.out (put8_mid _ _ _ hql))
      have k1 := fun k => conv_front (w := w8.drewN k) Hw8.out q (by rw [encs_length] at hql; omega)
      have k2 := fun k => conv_front (w := w8.drewN k) hn9 q (by rw [encs_length] at hql; omega)
      have k3 := fun k => conv_back (w := w8.drewN k) Hw8.out (q + 8) (by rw [encs_length] at hql; omega)
      have k4 := fun k => conv_back (w := w8.drewN k) hn9 (q + 8) (by rw [encs_length] at hql; omega)
      rw [put8_take _ _ _ hql] at k2
      rw [put8_drop _ _ _ hql] at k4
      obtain ⟨T1, hT1⟩ : ∃ T, T = strOfNums ((encs s.used).take q) := ⟨_, rfl⟩
      obtain ⟨T2, hT2⟩ : ∃ T, T = strOfNums ((encs s.used).drop (q + 8)) := ⟨_, rfl⟩
      rw [← hT1] at k1 k2
      rw [← hT2] at k3 k4
      have hql2 : q + 8 ≤ tot s.used := by rw [encs_length] at hql; exact hql
      have Hq := Lib.hid hq
      simp only [maxLen] at hm1 hm2
      clear hT1 hT2 hq he2 hql hn9 hs2 hbad
      go_wp2_with fail
      rw [Hq.out]
      refine N.out.mono ?_
      rintro e w9 ⟨rfl, rfl⟩
      go_wp2_with fail
      go_quiet (fail)
      have Hfin := Lib.hid (fun k => HF8.out.trans (Fr.drewN (fun _ => False) _ k) (fun _ h => h) (fun _ _ h => h))
      go_wp2
      all_goals (go_ret; exact ⟨rfl, Hfin.out _⟩)
end Go.Proofs.Ytniifefmjdjebaa
namespace Go.Proofs.Ytniifefmjdjebaa
open Go.RowKit
set_option linter.unusedVariables false
set_option linter.unusedSimpArgs false

/-- A row that is kept beside an arena: its value, its elements' type, its cells. -/
abbrev KRow := Value × TypeId × List Value
/-- One arena at p that holds s, in blocks S that are newer than w0; rows beside it; nothing of w0 has turned. -/
structure St (w0 w : World) (p : Nat) (S : Nat → Prop) (s : AS) (R : List KRow) : Prop where
  arena : IsArena w p S s
  fr : Fr (fun _ => False) w0 w
  new : ∀ k, S k → w0.heap.size ≤ k
  rows : ∀ r ∈ R, w.ownsRow 0 r.2.1 1 r.1 r.2.2.length r.2.2 ∧ ∀ k, r.1.ownBlock = some k → ¬ S k
theorem St.turned {w0 w w' : World} {p : Nat} {S : Nat → Prop} {s s' : AS} {R : List KRow} (h : St w0 w p S s R) (ht : Turned w w' p S s') : ∃ S', St w0 w' p S' s' R := by
  obtain ⟨S', h1, h2, h3⟩ := ht
  refine ⟨S', h1, h.fr.trans h2 (fun _ h => h) (fun i hi hs => by have := h.new i hs; omega), fun k hk => ?_, fun r hr => ?_⟩
  · rcases h3 k hk with h4 | h4
    · exact h.new k h4
    · have := h.fr.size; omega
  · obtain ⟨hr1, hr2⟩ := h.rows r hr
    refine ⟨h2.row hr1 hr2, fun k hk hs => ?_⟩
    rcases h3 k hs with h4 | h4
    · exact hr2 k hk h4
    · have := row_lt hr1 hk; omega
theorem St.drewN {w0 w : World} {p : Nat} {S : Nat → Prop} {s : AS} {R : List KRow} (h : St w0 w p S s R) (n : Nat) : St w0 (w.drewN n) p S s R :=
  ⟨h.arena.drewN n, h.fr.trans (Fr.drewN (fun _ => False) w n) (fun _ h => h) (fun _ _ h => h), h.new, h.rows⟩
theorem St.kept {w0 w w' : World} {p : Nat} {S : Nat → Prop} {s : AS} {R : List KRow} (h : St w0 w p S s R) (hf : Fr (fun _ => False) w w') : St w0 w' p S s R :=
  ⟨h.arena.keep hf (fun _ _ h => h), h.fr.trans hf (fun _ h => h) (fun _ _ h => h), h.new, fun r hr => ⟨hf.row (h.rows r hr).1 (fun _ _ h => h), (h.rows r hr).2⟩⟩
theorem St.row {w0 w w' : World} {p : Nat} {S : Nat → Prop} {s : AS} {R : List KRow} {e : TypeId} {xs : List Value} {v : Value} (h : St w0 w p S s R)
    (h1 : w'.ownsRow 0 e 1 v xs.length xs) (h2 : Fr (fun _ => False) w w') (h3 : ∀ g, v.ownBlock = some g → w.heap.size ≤ g) : St w0 w' p S s ((v, e, xs) :: R) := by
  have hk := h.kept h2
  refine ⟨hk.arena, hk.fr, hk.new, fun r hr => ?_⟩
  rcases List.mem_cons.1 hr with rfl | hr
  · exact ⟨h1, fun k hk hs => by have := h3 k hk; have := h.arena.lt hs; omega⟩
  · exact hk.rows r hr
theorem St.put {w0 w w' : World} {p : Nat} {S : Nat → Prop} {s s' : AS} {R : List KRow} (h : St w0 w p S s R) (h1 : IsArena w' p S s') (h2 : Fr S w w') : St w0 w' p S s' R := by
  refine ⟨h1, h.fr.trans h2 (fun _ h => h) (fun i hi hs => by have := h.new i hs; omega), h.new, fun r hr => ?_⟩
  obtain ⟨hr1, hr2⟩ := h.rows r hr
  exact ⟨h2.row hr1 hr2, hr2⟩
/-- What 'made' leaves. -/
theorem MadeOk.st {w0 w w' : World} {s : AS} {e : Ending} (h : MadeOk w s e w') (h0 : Fr (fun _ => False) w0 w) : ∃ p S, e = .returned (.pointer (some ⟨p, 0, none⟩)) ∧ St w0 w' p S s [] := by
  obtain ⟨p, S, h1, h2, h3, h4⟩ := h
  exact ⟨p, S, h1, h2, h0.trans h3 (fun _ h => h) (fun _ _ h => h), fun k hk => Nat.le_trans h0.size (h4 k hk), fun _ h => by cases h⟩
/-- The addresses as a row. -/
def rowA (v : Value) (s : AS) : KRow := (v, 2, (addrs 0 s.used).map (Value.int .i64))
/-- The bytes as a row. -/
def rowB (v : Value) (s : AS) : KRow := (v, 5, (encs s.used).map (Value.int .u8))
theorem St.rowAt {w0 w : World} {p : Nat} {S : Nat → Prop} {s : AS} {R : List KRow} (h : St w0 w p S s R) {v : Value} {t : AS} (hr : rowA v t ∈ R) : w.ownsRow 0 2 1 v t.used.length ((addrs 0 t.used).map (Value.int .i64)) := by
  have := (h.rows _ hr).1
  simp only [rowA, List.length_map, addrs_length] at this
  exact this
theorem St.rowBt {w0 w : World} {p : Nat} {S : Nat → Prop} {s : AS} {R : List KRow} (h : St w0 w p S s R) {v : Value} {t : AS} (hr : rowB v t ∈ R) : w.ownsRow 0 5 1 v (tot t.used) ((encs t.used).map (Value.int .u8)) := by
  have := (h.rows _ hr).1
  simp only [rowB, List.length_map, encs_length] at this
  exact this
theorem St.small {w0 w : World} {p : Nat} {S : Nat → Prop} {s : AS} {R : List KRow} (h : St w0 w p S s R) : tot s.used ≤ 1048576 ∧ s.used.length ≤ tot s.used := by
  obtain ⟨_, _, _, _, hh⟩ := h.arena.used
  exact ⟨hh.small, len_le_tot _⟩
theorem madeK_ahead (s : AS) (c : Nat → CallD) : ∀ k, (madeK s c k).ahead = s.ahead
  | 0 => rfl
  | k + 1 => by
    show (AS.make _ _ _).ahead = _
    unfold AS.make
    split
    · exact madeK_ahead s c k
    · exact madeK_ahead s c k
theorem madeS_ahead (semi : Int) (c : Nat → CallD) (len : Nat) : (madeS semi c len).ahead = [] := madeK_ahead _ _ _
end Go.Proofs.Ytniifefmjdjebaa
namespace Go.Proofs.Ytniifefmjdjebaa
open Go.RowKit
set_option linter.unusedVariables false
set_option linter.unusedSimpArgs false

/-- Two rows lie in different blocks. -/
def Apart2 (a b : KRow) : Prop := ∀ k, a.1.ownBlock = some k → b.1.ownBlock ≠ some k
structure Sx (w0 w : World) (p : Nat) (S : Nat → Prop) (s : AS) (R : List KRow) : Prop where
  st : St w0 w p S s R
  apart : R.Pairwise Apart2
  newr : ∀ r ∈ R, ∀ k, r.1.ownBlock = some k → w0.heap.size ≤ k
theorem Apart2.symm {a b : KRow} (h : Apart2 a b) : Apart2 b a := fun k hb ha => h k ha hb
theorem Sx.drewN {w0 w : World} {p : Nat} {S : Nat → Prop} {s : AS} {R : List KRow} (h : Sx w0 w p S s R) (n : Nat) : Sx w0 (w.drewN n) p S s R := ⟨h.st.drewN n, h.apart, h.newr⟩
theorem Sx.kept {w0 w w' : World} {p : Nat} {S : Nat → Prop} {s : AS} {R : List KRow} (h : Sx w0 w p S s R) (hf : Fr (fun _ => False) w w') : Sx w0 w' p S s R := ⟨h.st.kept hf, h.apart, h.newr⟩
theorem Sx.put {w0 w w' : World} {p : Nat} {S : Nat → Prop} {s s' : AS} {R : List KRow} (h : Sx w0 w p S s R) (h1 : IsArena w' p S s') (h2 : Fr S w w') : Sx w0 w' p S s' R := ⟨h.st.put h1 h2, h.apart, h.newr⟩
theorem Sx.turned {w0 w w' : World} {p : Nat} {S : Nat → Prop} {s s' : AS} {R : List KRow} (h : Sx w0 w p S s R) (ht : Turned w w' p S s') : ∃ S', Sx w0 w' p S' s' R := by
  obtain ⟨S', h'⟩ := h.st.turned ht
  exact ⟨S', h', h.apart, h.newr⟩
theorem Sx.row {w0 w w' : World} {p : Nat} {S : Nat → Prop} {s : AS} {R : List KRow} {e : TypeId} {xs : List Value} {v : Value} (h : Sx w0 w p S s R)
    (h1 : w'.ownsRow 0 e 1 v xs.length xs) (h2 : Fr (fun _ => False) w w') (h3 : ∀ g, v.ownBlock = some g → w.heap.size ≤ g) : Sx w0 w' p S s ((v, e, xs) :: R) := by
  refine ⟨h.st.row h1 h2 h3, List.pairwise_cons.2 ⟨fun r hr k hk hr2 => ?_, h.apart⟩, fun r hr k hk => ?_⟩
  · have := h3 k hk
    have := row_lt (h.st.rows r hr).1 hr2
    omega
  · rcases List.mem_cons.1 hr with rfl | hr
    · have := h3 k hk; have := h.st.fr.size; omega
    · exact h.newr r hr k hk
theorem Sx.nil {w0 w : World} {p : Nat} {S : Nat → Prop} {s : AS} {R : List KRow} (h : Sx w0 w p S s R) (e : TypeId) : Sx w0 w p S s ((.slice none 0 0, e, []) :: R) :=
  h.row (World.ownsRow_nil _ _ _ _) (Fr.refl _ _) (by simp [Value.ownBlock])
theorem Sx.swap {w0 w : World} {p : Nat} {S : Nat → Prop} {s : AS} {a b : KRow} {R : List KRow} (h : Sx w0 w p S s (a :: b :: R)) : Sx w0 w p S s (b :: a :: R) := by
  have hp : (b :: a :: R).Perm (a :: b :: R) := List.Perm.swap a b R
  refine ⟨⟨h.st.arena, h.st.fr, h.st.new, fun r hr => h.st.rows r (hp.mem_iff.1 hr)⟩, (hp.pairwise_iff (fun h => h.symm)).2 h.apart, fun r hr => h.newr r (hp.mem_iff.1 hr)⟩
theorem Sx.tail {w0 w : World} {p : Nat} {S : Nat → Prop} {s : AS} {a : KRow} {R : List KRow} (h : Sx w0 w p S s (a :: R)) : Sx w0 w p S s R :=
  ⟨⟨h.st.arena, h.st.fr, h.st.new, fun r hr => h.st.rows r (List.mem_cons_of_mem _ hr)⟩, h.apart.tail, fun r hr => h.newr r (List.mem_cons_of_mem _ hr)⟩
theorem Sx.sub {w0 w : World} {p : Nat} {S : Nat → Prop} {s : AS} {R R' : List KRow} (h : Sx w0 w p S s R) (hs : R'.Sublist R) : Sx w0 w p S s R' :=
  ⟨⟨h.st.arena, h.st.fr, h.st.new, fun r hr => h.st.rows r (hs.subset hr)⟩, h.apart.sublist hs, fun r hr => h.newr r (hs.subset hr)⟩
theorem St.sx {w0 w : World} {p : Nat} {S : Nat → Prop} {s : AS} (h : St w0 w p S s []) : Sx w0 w p S s [] := ⟨h, List.Pairwise.nil, fun _ h => by cases h⟩
/-- A row that is appended to, or written in place. -/
theorem Sx.grown {w0 w w' : World} {p : Nat} {S : Nat → Prop} {s : AS} {R : List KRow} {e : TypeId} {xs ys : List Value} {v v' : Value} (h : Sx w0 w p S s ((v, e, xs) :: R))
    (h1 : w'.ownsRow 0 e 1 v' ys.length ys) (h2 : w.grownBy w' v.ownBlock) (h3 : ∀ g, v'.ownBlock = some g → v.ownBlock = some g ∨ w.heap.size ≤ g) : Sx w0 w' p S s ((v', e, ys) :: R) := by
  obtain ⟨hr0, hs0⟩ := h.st.rows _ List.mem_cons_self
  have hap := List.pairwise_cons.1 h.apart
  have hfr : Fr (fun k => v.ownBlock = some k) w w' := Fr.of_grown h2 (fun k hk => hk)
  refine ⟨⟨h.st.arena.keep hfr (fun k hk e => hs0 k e hk), h.st.fr.trans hfr (fun _ h => h) (fun i hi e => ?_), h.st.new, fun r hr => ?_⟩, List.pairwise_cons.2 ⟨fun r hr k hk hr2 => ?_, hap.2⟩, fun r hr k hk => ?_⟩
  · have := h.newr _ List.mem_cons_self i e; omega
  · rcases List.mem_cons.1 hr with rfl | hr
    · refine ⟨h1, fun k hk hS => ?_⟩
      rcases h3 k hk with h4 | h4
      · exact hs0 k h4 hS
      · have := h.st.arena.lt hS; omega
    · obtain ⟨q1, q2⟩ := h.st.rows r (List.mem_cons_of_mem _ hr)
      exact ⟨hfr.row q1 (fun k hk e => hap.1 r hr k e hk), q2⟩
  · rcases h3 k hk with h4 | h4
    · exact hap.1 r hr k h4 hr2
    · have := row_lt (h.st.rows r (List.mem_cons_of_mem _ hr)).1 hr2; omega
  · rcases List.mem_cons.1 hr with rfl | hr
    · rcases h3 k hk with h4 | h4
      · exact h.newr _ List.mem_cons_self k h4
      · have := h.st.fr.size; omega
    · exact h.newr r (List.mem_cons_of_mem _ hr) k hk
/-- The same behind a one-cell block, as an append of one element leaves it. -/
theorem Sx.appended {w0 w w' : World} {p : Nat} {S : Nat → Prop} {s : AS} {R : List KRow} {e : TypeId} {xs : List Value} {x v v' : Value} {o : Obj} (h : Sx w0 w p S s ((v, e, xs) :: R))
    (h1 : w'.ownsRow 0 e 1 v' (xs.length + 1) (xs ++ [x])) (h2 : (w.alloc o).grownBy w' v.ownBlock) (h3 : v'.ownBlock = v.ownBlock ∨ v'.ownBlock = some (w.heap.size + 1)) : Sx w0 w' p S s ((v', e, xs ++ [x]) :: R) := by
  refine h.grown (by simpa using h1) (grown_trans (World.grownBy_alloc w o _) h2) (fun g hg => ?_)
  rcases h3 with h4 | h4
  · exact .inl (h4 ▸ hg)
  · rw [h4] at hg; right; simp at hg; omega
theorem Sx.head {w0 w : World} {p : Nat} {S : Nat → Prop} {s : AS} {R : List KRow} {e : TypeId} {xs : List Value} {v : Value} (h : Sx w0 w p S s ((v, e, xs) :: R)) : w.ownsRow 0 e 1 v xs.length xs := (h.st.rows _ List.mem_cons_self).1
end Go.Proofs.Ytniifefmjdjebaa
namespace Go.Proofs.Ytniifefmjdjebaa
open Go.RowKit
set_option linter.unusedVariables false
set_option linter.unusedSimpArgs false

theorem cut_at (l : List Ob) (i : Nat) (h : i < l.length) : l = l.take i ++ l[i] :: l.drop (i + 1) := by
  rw [← List.drop_eq_getElem_cons h, List.take_append_drop]
theorem addrs_get : ∀ (l : List Ob) (off i : Nat), i < l.length → (addrs off l)[i]?.getD 0 = (off : Int) + tot (l.take i) + 8
  | [], _, _, h => by simp at h
  | x :: l, off, 0, _ => by simp [addrs, tot_nil]
  | x :: l, off, i + 1, h => by
    have := addrs_get l (off + x.size) i (by simpa using h)
    simp only [addrs, List.getElem?_cons_succ, List.take_succ_cons, tot_cons]
    rw [this]
    omega
theorem find_get (l : List Ob) (i : Nat) (h : i < l.length) : findOb 0 l ((tot (l.take i) : Int) + 8) = some l[i] := by
  have := findOb_at (l.take i) l[i] (l.drop (i + 1)) 0
  rw [← cut_at l i h] at this
  rw [show (tot (l.take i) : Int) + 8 = ((0 + tot (l.take i) + 8 : Nat) : Int) from by omega]
  exact this
theorem tot_take_succ (l : List Ob) (i : Nat) (h : i < l.length) : tot (l.take (i + 1)) = tot (l.take i) + 16 + 8 * l[i].vs.length := by
  rw [List.take_succ_eq_append_getElem h, tot_append, tot_cons, tot_nil]
  simp [Ob.size]; omega
theorem tot_take_le (l : List Ob) (i : Nat) : tot (l.take i) ≤ tot l := by
  have : tot l = tot (l.take i) + tot (l.drop i) := by rw [← tot_append, List.take_append_drop]
  omega
theorem words_get (l : List Ob) (i : Nat) (h : i < l.length) : ((encs l).drop (tot (l.take i))).take 8 = w8 l[i].kind ∧ ((encs l).drop (tot (l.take i) + 8)).take 8 = w8 l[i].vs.length ∧
    ∀ k, k < l[i].vs.length → ((encs l).drop (tot (l.take i) + 16 + 8 * k)).take 8 = w8 (l[i].vs[k]?.getD 0) := by
  have e := cut_at l i h
  refine ⟨?_, ?_, fun k hk => ?_⟩
  · have := encs_kind (l.take i) l[i] (l.drop (i + 1)); rw [← e] at this; exact this
  · have := encs_slots (l.take i) l[i] (l.drop (i + 1)); rw [← e] at this; exact this
  · have := encs_slot (l.take i) l[i] (l.drop (i + 1)) k hk; rw [← e] at this; rw [List.getElem?_eq_getElem hk]; exact this
theorem addrs_put (s : AS) (a n v : Int) : addrs 0 (s.put a n v).used = addrs 0 s.used := by
  unfold AS.put; split
  · exact addrs_setOb _ _ _ _ _
  · rfl
theorem length_of_addrs {l r : List Ob} (h : addrs 0 l = addrs 0 r) : l.length = r.length := by rw [← addrs_length l 0, h, addrs_length]
theorem St.okAt {w0 w : World} {p : Nat} {S : Nat → Prop} {s : AS} {R : List KRow} (h : St w0 w p S s R) : ∀ x ∈ s.used, x.ok := by
  obtain ⟨_, _, _, _, hh⟩ := h.arena.used
  exact hh.ok
set_option maxRecDepth 100000 in
set_option maxHeartbeats 2000000 in
theorem ArenaBytes_any (semi : Int) (a1 : Option Addr) (len1 cap1 : Nat) (c : Nat → CallD) (w : World) (hs : I64 semi) (h1 : CallsIn w a1 len1 c) :
    Calls Try.prog 10 #[.int .i64 semi, .slice a1 len1 cap1] w fun e w' => e = .returned (.bool true) ∧ Fr (fun _ => False) w w' := by
  have hsm := h1.small
  have HI := Lib.hid h1; clear h1
  go_enter Try.func10, Try.ntmps10
  go_wp2_with fail
  refine (known_any _).mono ?_
  rintro e w1 ⟨rfl, hf1⟩
  have HF1 := Lib.hid hf1; clear hf1
  go_wp2_with fail
  refine (made_any semi a1 len1 cap1 c _ hs (HI.out.keep HF1.out)).mono ?_
  intro e w2 hm
  obtain ⟨p, S, rfl, hst⟩ := hm.st HF1.out
  obtain ⟨s, hsd⟩ : ∃ s, s = madeS semi c len1 := ⟨_, rfl⟩
  rw [← hsd] at hst
  clear hsd hm
  have HS := Lib.hid hst; clear hst
  go_wp2_with fail
  refine (All_any p S s _ HS.out.arena).mono ?_
  rintro e w3 ⟨vl, rfl, q1, q2, q3⟩
  have HS3 := Lib.hid (HS.out.row q1 q2 q3)
  clear q1 q2 q3 HS
  obtain ⟨s1, s2⟩ := HS3.out.small
  obtain ⟨al, cl, rfl⟩ := row_form (HS3.out.rowAt (t := s) List.mem_cons_self)
  go_upto_block 0 with fail
  go_cut [7] (fun i wr => ∃ (S : Nat → Prop) (t : AS), addrs 0 t.used = addrs 0 s.used ∧ St w wr p S t [rowA (.slice al s.used.length cl) s])
  case first =>
    go_wp2_with fail
    go_loopw [7] (fun i wr => ∃ (k : Nat) (S : Nat → Prop) (t : AS), k ≤ 60 ∧ k ≤ len1 ∧ i = .int .i64 k ∧ addrs 0 t.used = addrs 0 s.used ∧ St w wr p S t [rowA (.slice al s.used.length cl) s]) (fun i _ => (60 - intOf i).toNat)
    case atStart => exact ⟨0, S, s, by omega, by omega, rfl, rfl, HS3.out⟩
    case round =>
      obtain ⟨k, S, t, hk, hk2, rfl, hadr, hst⟩ := hrel
      have Hadr := Lib.hid hadr
      have HSt := Lib.hid hst
      clear hadr hst
      by_cases hgo : k < len1 ∧ k < 60 ∧ 0 < s.used.length
      · obtain ⟨g1, g2, g3⟩ := hgo
        obtain ⟨b, off, rfl, hc⟩ := (HI.out.keep HSt.out.fr).cells (by omega)
        obtain ⟨e1, e2, e3, e4, e5⟩ := hc k g1
        obtain ⟨f1, f2, f3, f4, f5⟩ := HI.out.fit k g1
        have Hfit := Lib.hid (And.intro f2 (And.intro f3 f5))
        obtain ⟨gl, ql, _, el, _, _, _⟩ := row_addr (HSt.out.rowAt (t := s) List.mem_cons_self) g3
        simp only [Value.slice.injEq, true_and] at el
        obtain ⟨rfl, rfl⟩ := el
        have hr1 := Int.emod_nonneg (c k).n (show (s.used.length : Int) ≠ 0 by omega)
        have hr2 := Int.emod_lt_of_pos (c k).n (show (0 : Int) < s.used.length by omega)
        obtain ⟨i, hi⟩ := Int.eq_ofNat_of_zero_le hr1
        have hil : i < s.used.length := by omega
        have hcx := row_int (HSt.out.rowAt (t := s) List.mem_cons_self) hil
        have W1 := Lib.hid (fun W => (within_any (c k).n s.used.length W f2 (by omega) (by omega)).mono (R' := fun e w' => e = .returned (.int .i64 i) ∧ w' = W) (by rintro e w' ⟨rfl, rfl⟩; exact ⟨by rw [hi], rfl⟩))
        obtain ⟨a, ha⟩ : ∃ a, a = (addrs 0 s.used)[i]?.getD 0 := ⟨_, rfl⟩
        rw [← ha] at hcx
        obtain ⟨m, hm⟩ : ∃ m, m = (c k).m := ⟨_, rfl⟩
        obtain ⟨n, hn⟩ : ∃ m, m = (c k).n := ⟨_, rfl⟩
        obtain ⟨v, hv⟩ : ∃ m, m = (c k).v := ⟨_, rfl⟩
        rw [← hm] at e3 Hfit
        rw [← hn] at e2 Hfit W1
        rw [← hv] at e5 Hfit
        clear hc e1 e4 f1 f2 f3 f4 f5 hr1 hr2 hi ha hm hn hv
        go_wp2_with fail
        go_still_tail 23, (by kernel_rfl)
        still_call (W1.out _)
        repeat still_step
        still_call (within_any m 21 _ Hfit.out.2.1 (by omega) (by omega))
        repeat still_step
        refine wpStill_nil ?_
        change wpList _ _ _ _ _ (wr.drewN 1)
        go_wp2_with fail
        refine (Put_any p a (m % 21) v S t _ (HSt.out.drewN 1).arena Hfit.out.2.2).mono ?_
        rintro e w4 ⟨rfl, q1, q2⟩
        have HS4 := Lib.hid ((HSt.out.drewN 1).put q1 q2)
        clear q1 q2
        go_wp2
        go_roundw
        case rel => exact ⟨k + 1, S, _, by omega, by omega, by go_num, (addrs_put _ _ _ _).trans Hadr.out, HS4.out⟩
        case measure => simp [intOf]; omega
      · have Hfin := Lib.hid (show ∃ (S : Nat → Prop) (t : AS), addrs 0 t.used = addrs 0 s.used ∧ St w wr p S t [rowA (.slice al s.used.length cl) s] from ⟨S, t, Hadr.out, HSt.out⟩)
        by_cases g1 : k < len1
        · by_cases g2 : k < 60
          · have g3 : ¬ 0 < s.used.length := by omega
            clear hgo
            go_wp2_with fail
            go_meet
            exact Hfin.out
          · clear hgo
            go_wp2_with fail
            go_meet
            exact Hfin.out
        · clear hgo
          go_wp2_with fail
          go_meet
          exact Hfin.out
  case rest =>
    obtain ⟨S, t, hadr, hst⟩ := hcut
    have hL := length_of_addrs hadr
    have Hadr := Lib.hid hadr
    have HL := Lib.hid hL
    have HSt := Lib.hid hst
    obtain ⟨t1, t2⟩ := HSt.out.small
    clear hadr hL hst
    go_wp2_with fail
    refine (Bytes_any p S t _ HSt.out.arena).mono ?_
    rintro e w4 ⟨vb, rfl, q1, q2, q3⟩
    have HS4 := Lib.hid (HSt.out.row q1 q2 q3)
    obtain ⟨ab, cb, rfl⟩ := row_form q1
    rw [List.length_map, encs_length] at HS4 ⊢
    clear q1 q2 q3 HSt
    go_wp2_with fail
    refine (Used_any p S t _ HS4.out.arena).mono ?_
    rintro e w5 ⟨rfl, rfl⟩
    go_wp2_with fail
    go_loopw [9, 10] (fun u i wr => ∃ k n : Nat, k ≤ s.used.length ∧ i = .int .i64 k ∧ u = .int .i64 (tot (t.used.take k)) ∧ wr = w5.drewN n) (fun _ i _ => (s.used.length - intOf i).toNat)
    case atStart => exact ⟨0, 0, by omega, rfl, rfl, rfl⟩
    case round =>
      obtain ⟨k, n, hk, rfl, rfl, rfl⟩ := hrel
      by_cases hlt : k < s.used.length
      · have hltt : k < t.used.length := by have := HL.out; omega
        have HSn := Lib.hid (HS4.out.drewN n)
        have hrow := HSn.out.rowAt (t := s) (List.mem_cons_of_mem _ List.mem_cons_self)
        obtain ⟨gl, ql, _, el, _, _, _⟩ := row_addr hrow (by omega)
        simp only [Value.slice.injEq, true_and] at el
        obtain ⟨rfl, rfl⟩ := el
        have hcell := row_int hrow hlt
        rw [← Hadr.out, addrs_get t.used 0 k hltt] at hcell
        have hfind := find_get t.used k hltt
        obtain ⟨x1, x2, x3⟩ := words_get t.used k hltt
        have hok := HSn.out.okAt t.used[k] (List.getElem_mem hltt)
        have hts := tot_take_succ t.used k hltt
        have htl := tot_take_le t.used (k + 1)
        obtain ⟨x, hx⟩ : ∃ x, x = t.used[k] := ⟨_, rfl⟩
        obtain ⟨A, hA⟩ : ∃ A, A = tot (t.used.take k) := ⟨_, rfl⟩
        rw [← hx] at hfind hok hts
        rw [← hx] at x1 x2 x3
        rw [← hA] at hcell hfind x1 x2 x3 hts ⊢
        rw [show ((0 : Nat) : Int) + A + 8 = (A : Int) + 8 from by omega] at hcell
        have hbnd : A + 16 + 8 * x.vs.length ≤ tot t.used := by omega
        have Hts := Lib.hid hts
        have Hx := Lib.hid (And.intro x1 (And.intro x2 x3))
        have Hok := Lib.hid hok
        have Hfind := Lib.hid hfind
        have hk2 := hok.2.1
        clear hrow hts x1 x2 x3 hfind hok hx hA htl
        have hrb := HSn.out.rowBt (t := t) List.mem_cons_self
        have N1 := Lib.hid (lawNumber_any (A : Int) _ (encs t.used) x.kind _ (by rw [encs_length]; exact hrb) (by omega) Hok.out.1 (by rw [Int.toNat_natCast]; exact Hx.out.1))
        have N2 := Lib.hid (lawNumber_any ((A : Int) + 8) _ (encs t.used) x.vs.length _ (by rw [encs_length]; exact hrb) (by omega) ⟨by omega, by omega⟩ (by rw [show ((A : Int) + 8).toNat = A + 8 from by omega]; exact Hx.out.2.1))
        clear hrb
        go_wp2_with fail
        refine (Slots_any p ((A : Int) + 8) S t _ HSn.out.arena).mono ?_
        rw [Hfind.out, show slotsOf (some x) = (x.vs.length : Int) from rfl, show errI (some x) = 0 from rfl]
        rintro e w7 ⟨rfl, rfl⟩
        go_wp2_with fail
        refine (Kind_any p ((A : Int) + 8) S t _ HSn.out.arena).mono ?_
        rw [Hfind.out, show kindOf (some x) = x.kind from rfl, show errI (some x) = 0 from rfl]
        rintro e w7 ⟨rfl, rfl⟩
        go_wp2_with fail
        refine N1.out.mono ?_
        rintro e w7 ⟨rfl, rfl⟩
        go_wp2_with fail
        refine N2.out.mono ?_
        rintro e w7 ⟨rfl, rfl⟩
        go_wp2_with fail
        go_loopw [15] (fun j wr => ∃ m q : Nat, m ≤ x.vs.length ∧ j = .int .i64 m ∧ wr = w5.drewN q) (fun j _ => (x.vs.length - intOf j).toNat)
        case atStart => exact ⟨0, n, by omega, rfl, rfl⟩
        case round =>
          obtain ⟨m, q, hm, rfl, rfl⟩ := hrel
          by_cases hmlt : m < x.vs.length
          · have HSq := Lib.hid (HS4.out.drewN q)
            have hrow := HSq.out.rowAt (t := s) (List.mem_cons_of_mem _ List.mem_cons_self)
            have hcell2 := row_int hrow hlt
            rw [← Hadr.out, addrs_get t.used 0 k hltt] at hcell2
            have hcell3 : (w5.drewN q).cell? ⟨gl, k, none⟩ = some (.int .i64 ((A : Int) + 8)) := hcell
            clear hcell2 hrow
            have hvo : I64 (x.vs[m]?.getD 0) := by
              rw [List.getElem?_eq_getElem hmlt]
              exact Hok.out.2.2 _ (List.getElem_mem hmlt)
            have Hg := Lib.hid (show getV (some x) m = x.vs[m]?.getD 0 ∧ slotE (some x) m = 0 from by
              have hn : ¬ ((m : Int) < 0 ∨ (m : Int) ≥ x.vs.length) := by omega
              exact ⟨(if_neg hn).trans (by rw [Int.toNat_natCast, List.getD_eq_getElem?_getD]), if_neg hn⟩)
            have N3 := Lib.hid (fun q2 => lawNumber_any ((A : Int) + 16 + 8 * m) _ (encs t.used) (x.vs[m]?.getD 0) (w5.drewN q2) (by rw [encs_length]; exact (HS4.out.drewN q2).rowBt (t := t) List.mem_cons_self) (by omega) hvo (by rw [show ((A : Int) + 16 + 8 * m).toNat = A + 16 + 8 * m from by omega]; exact Hx.out.2.2 m hmlt))
            generalize x.vs[m]?.getD 0 = val at *
            clear hvo
            go_wp2_with fail
            refine (Get_any p ((A : Int) + 8) m S t _ HSq.out.arena).mono ?_
            rw [Hfind.out, Hg.out.1, Hg.out.2]
            rintro e w8 ⟨rfl, q2, rfl⟩
            go_wp2_with fail
            refine (N3.out _).mono ?_
            rintro e w9 ⟨rfl, rfl⟩
            go_wp2
            go_roundw
            case rel => exact ⟨m + 1, _, by omega, by go_num, by first | rfl | exact World.drewN_drewN _ _ _⟩
            case measure => simp [intOf]; omega
          · obtain rfl : m = x.vs.length := by omega
            go_wp2
            go_roundw
            case rel => exact ⟨k + 1, q, by omega, by go_num, by rw [Hts.out]; go_num, by first | rfl | trivial⟩
            case measure => simp [intOf]; omega
      · obtain rfl : k = s.used.length := by omega
        have Hall := Lib.hid (show tot (t.used.take s.used.length) = tot t.used from by rw [← HL.out, List.take_length])
        rw [Hall.out]
        have Hf := Lib.hid (HS4.out.drewN n).fr
        go_wp2
        go_ret
        exact ⟨rfl, Hf.out⟩
end Go.Proofs.Ytniifefmjdjebaa
namespace Go.Proofs.Ytniifefmjdjebaa
open Go.RowKit
set_option linter.unusedVariables false
set_option linter.unusedSimpArgs false

/-- All slots hold 0. -/
def Zeros (l : List Ob) : Prop := ∀ x ∈ l, ∀ v ∈ x.vs, v = 0
theorem Zeros.make {s : AS} (h : Zeros s.used) (kind n : Int) : Zeros (s.make kind n).used := by
  unfold AS.make; split
  · intro x hx v hv
    rcases List.mem_append.1 hx with hx | hx
    · exact h x hx v hv
    · simp at hx; subst hx; exact List.eq_of_mem_replicate hv
  · exact h
theorem Zeros.made (s : AS) (h : Zeros s.used) (c : Nat → CallD) : ∀ k, Zeros (madeK s c k).used
  | 0 => h
  | k + 1 => (Zeros.made s h c k).make _ _
/-- From object i on, slot j on, all slots hold 0. -/
structure ZFrom (l : List Ob) (i j : Nat) : Prop where
  later : ∀ i', i < i' → ∀ x, l[i']? = some x → ∀ v ∈ x.vs, v = 0
  here : ∀ x, l[i]? = some x → ∀ j', j ≤ j' → ∀ v, x.vs[j']? = some v → v = 0
theorem ZFrom.of_zeros {l : List Ob} (h : Zeros l) : ZFrom l 0 0 :=
  ⟨fun i' _ x hx v hv => h x (List.mem_of_getElem? hx) v hv, fun x hx j' _ v hv => h x (List.mem_of_getElem? hx) v (List.mem_of_getElem? hv)⟩
theorem ZFrom.next {l : List Ob} {i j : Nat} (h : ZFrom l i j) : ZFrom l (i + 1) 0 :=
  ⟨fun i' hi x hx v hv => h.later i' (by omega) x hx v hv, fun x hx j' _ v hv => h.later (i + 1) (by omega) x hx v (List.mem_of_getElem? hv)⟩
theorem setOb_get : ∀ (l : List Ob) (off i n : Nat) (v : Int), i < l.length → setOb off l ((off : Int) + tot (l.take i) + 8) n v = l.set i ⟨(l[i]?.getD ⟨0, []⟩).kind, (l[i]?.getD ⟨0, []⟩).vs.set n v⟩
  | [], _, _, _, _, h => by simp at h
  | x :: l, off, 0, n, v, _ => by
    unfold setOb
    rw [if_pos (by simp [tot_nil])]
    simp
  | x :: l, off, i + 1, n, v, h => by
    have hz := size_pos x
    unfold setOb
    rw [if_neg (by rw [List.take_succ_cons, tot_cons]; omega)]
    have := setOb_get l (off + x.size) i n v (by simpa using h)
    rw [List.take_succ_cons, tot_cons, show (off : Int) + ((x.size + tot (l.take i) : Nat) : Int) + 8 = ((off + x.size : Nat) : Int) + tot (l.take i) + 8 from by omega, this]
    simp
theorem ZFrom.put {l : List Ob} {i j : Nat} (h : ZFrom l i j) (hi : i < l.length) (v : Int) : ZFrom (setOb 0 l ((tot (l.take i) : Int) + 8) j v) i (j + 1) := by
  have e := setOb_get l 0 i j v hi
  rw [show ((0 : Nat) : Int) + tot (l.take i) + 8 = (tot (l.take i) : Int) + 8 from by omega] at e
  rw [e]
  refine ⟨fun i' h1 x hx u hu => ?_, fun x hx j' h1 u hu => ?_⟩
  · rw [List.getElem?_set_ne (by omega)] at hx
    exact h.later i' h1 x hx u hu
  · rw [List.getElem?_set_self hi] at hx
    simp only [Option.some.injEq] at hx
    subst hx
    simp only at hu
    rw [List.getElem?_set_ne (by omega)] at hu
    exact h.here _ (by rw [List.getElem?_eq_getElem hi]; rfl) j' (by omega) u hu
theorem St.drop {w0 w : World} {p : Nat} {S : Nat → Prop} {s : AS} {R : List KRow} (h : St w0 w p S s R) : St w0 w p S s [] := ⟨h.arena, h.fr, h.new, fun _ h => by cases h⟩
theorem put_len {l : List Ob} {i n : Nat} (hi : i < l.length) (j : Nat) (v : Int) (hn : l[i]?.map (·.vs.length) = some n) : (setOb 0 l ((tot (l.take i) : Int) + 8) j v)[i]?.map (·.vs.length) = some n := by
  have e := setOb_get l 0 i j v hi
  rw [show ((0 : Nat) : Int) + tot (l.take i) + 8 = (tot (l.take i) : Int) + 8 from by omega] at e
  rw [e, List.getElem?_set_self hi]
  rw [List.getElem?_eq_getElem hi] at hn ⊢
  simpa using hn
theorem tot_of_addrs {l r : List Ob} (h : addrs 0 l = addrs 0 r) (i : Nat) (hi : i < l.length) : tot (l.take i) = tot (r.take i) := by
  have h1 := addrs_get l 0 i hi
  have h2 := addrs_get r 0 i (by rw [← length_of_addrs h]; exact hi)
  rw [h, h2] at h1
  omega
set_option maxRecDepth 100000 in
set_option maxHeartbeats 2000000 in
theorem ArenaFresh_any (semi : Int) (a1 : Option Addr) (len1 cap1 : Nat) (c : Nat → CallD) (kind : Int) (w : World) (hs : I64 semi) (h1 : CallsIn w a1 len1 c) (hkind : I64 kind) :
    Calls Try.prog 6 #[.int .i64 semi, .slice a1 len1 cap1, .int .i64 kind] w fun e w' => e = .returned (.bool true) ∧ Fr (fun _ => False) w w' := by
  have hsm := h1.small
  have HI := Lib.hid h1; clear h1
  have HK := Lib.hid hkind; clear hkind
  go_enter Try.func6, Try.ntmps6
  go_wp2_with fail
  refine (known_any _).mono ?_
  rintro e w1 ⟨rfl, hf1⟩
  have HF1 := Lib.hid hf1; clear hf1
  go_wp2_with fail
  refine (made_any semi a1 len1 cap1 c _ hs (HI.out.keep HF1.out)).mono ?_
  intro e w2 hm
  obtain ⟨p, S, rfl, hst⟩ := hm.st HF1.out
  have hz0 : Zeros (madeS semi c len1).used := Zeros.made _ (by simp [AS.new, Zeros]) c _
  obtain ⟨s, hsd⟩ : ∃ s, s = madeS semi c len1 := ⟨_, rfl⟩
  rw [← hsd] at hst hz0
  clear hsd hm
  have HS := Lib.hid (And.intro hst hz0); clear hst hz0
  go_wp2_with fail
  go_loopw [8] (fun i wr => ∃ (k : Nat) (S : Nat → Prop) (s : AS), k ≤ 3 ∧ i = .int .i64 k ∧ Zeros s.used ∧ St w wr p S s []) (fun i _ => (3 - intOf i).toNat)
  case atStart => exact ⟨0, S, s, by omega, rfl, HS.out.2, HS.out.1⟩
  case round =>
    obtain ⟨k, S, s, hk, rfl, hz, hst⟩ := hrel
    have HS := Lib.hid (And.intro hst hz); clear hst hz
    obtain ⟨wo, rfl⟩ : ∃ wo, wo = wr := ⟨_, rfl⟩
    by_cases hlt : k < 3
    · go_wp2_with fail
      refine (All_any p S s _ HS.out.1.arena).mono ?_
      rintro e w3 ⟨vl, rfl, q1, q2, q3⟩
      have HS3 := Lib.hid (HS.out.1.row q1 q2 q3)
      clear q1 q2 q3
      obtain ⟨s1, s2⟩ := HS3.out.small
      obtain ⟨al, cl, rfl⟩ := row_form (HS3.out.rowAt (t := s) List.mem_cons_self)
      go_wp2_with fail
      go_loopw [10] (fun i wr => ∃ (k : Nat) (S : Nat → Prop) (t : AS), k ≤ s.used.length ∧ i = .int .i64 k ∧ addrs 0 t.used = addrs 0 s.used ∧ ZFrom t.used k 0 ∧ St w wr p S t [rowA (.slice al s.used.length cl) s]) (fun i _ => (s.used.length - intOf i).toNat)
      case atStart => exact ⟨0, S, s, by omega, rfl, rfl, ZFrom.of_zeros HS.out.2, HS3.out⟩
      case round =>
        obtain ⟨i, S, t, hi, rfl, hadr, hzf, hst⟩ := hrel
        have HT := Lib.hid (And.intro hadr (And.intro hzf hst)); clear hadr hzf hst
        obtain ⟨wo2, rfl⟩ : ∃ wo, wo = wr := ⟨_, rfl⟩
        by_cases hilt : i < s.used.length
        · have hilt2 : i < t.used.length := by rw [length_of_addrs HT.out.1]; exact hilt
          have hrow := HT.out.2.2.rowAt (t := s) List.mem_cons_self
          obtain ⟨gl, ql, _, el, _, _, _⟩ := row_addr hrow (by omega)
          simp only [Value.slice.injEq, true_and] at el
          obtain ⟨rfl, rfl⟩ := el
          have hcell := row_int hrow hilt
          rw [← HT.out.1, addrs_get t.used 0 i hilt2] at hcell
          obtain ⟨A, hA⟩ : ∃ A, A = tot (t.used.take i) := ⟨_, rfl⟩
          have Hfind := Lib.hid (find_get t.used i hilt2)
          obtain ⟨n, hn⟩ : ∃ n, n = t.used[i].vs.length := ⟨_, rfl⟩
          have hn2 : n ≤ 65536 := by rw [hn]; exact (HT.out.2.2.okAt _ (List.getElem_mem hilt2)).2.1
          have Hlen := Lib.hid (show t.used[i]?.map (·.vs.length) = some n from by rw [List.getElem?_eq_getElem hilt2, hn]; rfl)
          have Hsl := Lib.hid (show slotsOf (some t.used[i]) = (n : Int) from by rw [hn]; rfl)
          rw [← hA, show ((0 : Nat) : Int) + A + 8 = (A : Int) + 8 from by omega] at hcell
          rw [← hA] at Hfind
          have HA := Lib.hid hA
          clear hA hn hrow
          go_wp2_with fail
          refine (Slots_any p ((A : Int) + 8) S t _ HT.out.2.2.arena).mono ?_
          rw [Hfind.out, Hsl.out]
          rintro e w4 ⟨rfl, rfl⟩
          clear hcell
          go_wp2_with fail
          go_loopw [13] (fun j wr => ∃ (j' : Nat) (S : Nat → Prop) (u : AS), j' ≤ n ∧ j = .int .i64 j' ∧ addrs 0 u.used = addrs 0 s.used ∧ ZFrom u.used i j' ∧ u.used[i]?.map (·.vs.length) = some n ∧ St w wr p S u [rowA (.slice (some ⟨gl, 0, none⟩) s.used.length cl) s]) (fun j _ => (n - intOf j).toNat)
          case atStart => exact ⟨0, S, t, by omega, rfl, HT.out.1, HT.out.2.1, Hlen.out, HT.out.2.2⟩
          case round =>
            obtain ⟨j, S, u, hj, rfl, hadr, hzf, hlen, hst⟩ := hrel
            have HU := Lib.hid (And.intro hadr (And.intro hzf (And.intro hlen hst))); clear hadr hzf hlen hst
            by_cases hjlt : j < n
            · have hiu : i < u.used.length := by rw [length_of_addrs HU.out.1]; exact hilt
              have hrow := HU.out.2.2.2.rowAt (t := s) List.mem_cons_self
              have hcell := row_int hrow hilt
              have htA : tot (u.used.take i) = A := by
                rw [HA.out]; exact tot_of_addrs (HU.out.1.trans HT.out.1.symm) i hiu
              rw [← HU.out.1, addrs_get u.used 0 i hiu, htA, show ((0 : Nat) : Int) + A + 8 = (A : Int) + 8 from by omega] at hcell
              have hfind := find_get u.used i hiu
              rw [htA] at hfind
              have hxl : u.used[i].vs.length = n := by
                have := HU.out.2.2.1
                rw [List.getElem?_eq_getElem hiu] at this
                simpa using this
              have hv0 : u.used[i].vs.getD j 0 = 0 := by
                have h0 := HU.out.2.1.here u.used[i] (List.getElem?_eq_getElem hiu) j (Nat.le_refl _) (u.used[i].vs[j]'(by omega)) (List.getElem?_eq_getElem (by omega))
                rw [List.getD_eq_getElem?_getD, List.getElem?_eq_getElem (by omega)]
                exact h0
              have hnb : ¬ ((j : Int) < 0 ∨ (j : Int) ≥ u.used[i].vs.length) := by rw [hxl]; omega
              have Hg := Lib.hid (show getV (findOb 0 u.used ((A : Int) + 8)) j = 0 ∧ slotE (findOb 0 u.used ((A : Int) + 8)) j = 0 from by
                rw [hfind]
                exact ⟨(if_neg hnb).trans (by rw [Int.toNat_natCast]; exact hv0), if_neg hnb⟩)
              have Hput := Lib.hid (show u.put ((A : Int) + 8) j (-1) = { u with used := setOb 0 u.used ((tot (u.used.take i) : Int) + 8) j (-1) } from by
                unfold AS.put; rw [Hg.out.2, if_pos rfl, htA, Int.toNat_natCast])
              clear hrow hfind hxl hv0 hnb htA
              go_wp2_with fail
              refine (Get_any p ((A : Int) + 8) j S u _ HU.out.2.2.2.arena).mono ?_
              rw [Hg.out.1, Hg.out.2]
              rintro e w5 ⟨rfl, q, rfl⟩
              go_wp2_with fail
              refine (Put_any p ((A : Int) + 8) j (-1) S u _ (HU.out.2.2.2.drewN q).arena ⟨by omega, by omega⟩).mono ?_
              rintro e w6 ⟨rfl, q1, q2⟩
              have HS6 := Lib.hid ((HU.out.2.2.2.drewN q).put q1 q2)
              clear q1 q2 hcell
              go_wp2
              go_roundw
              case rel =>
                have h6 := HS6.out
                rw [Hput.out] at h6
                exact ⟨j + 1, S, _, by omega, by go_num, (addrs_setOb _ _ _ _ _).trans HU.out.1, HU.out.2.1.put hiu (-1), put_len hiu j (-1) HU.out.2.2.1, h6⟩
              case measure => simp [intOf]; omega
            · obtain rfl : j = n := by omega
              go_wp2
              go_roundw
              case rel => exact ⟨i + 1, S, u, by omega, by go_num, HU.out.1, HU.out.2.1.next, HU.out.2.2.2⟩
              case measure => simp [intOf]; omega
        · go_wp2_with fail
          refine (Flip_any p S t _ HT.out.2.2.arena).mono ?_
          rintro e w7 ⟨rfl, q1⟩
          obtain ⟨S7, hq⟩ := HT.out.2.2.turned q1
          have HS7 := Lib.hid hq.drop
          clear q1 hq
          go_wp2_with fail
          go_loopw [16] (fun i wr => ∃ (m : Nat) (S : Nat → Prop) (u : AS), m ≤ 60 ∧ m ≤ len1 ∧ i = .int .i64 m ∧ Zeros u.used ∧ St w wr p S u []) (fun i _ => (60 - intOf i).toNat)
          case atStart => exact ⟨0, S7, _, by omega, by omega, rfl, by simp [Zeros], HS7.out⟩
          case round =>
            obtain ⟨m, S, u, hm, hm2, rfl, hz, hst⟩ := hrel
            have HU := Lib.hid (And.intro hz hst); clear hz hst
            by_cases g1 : m < len1
            · by_cases g2 : m < 60
              · obtain ⟨b, off, rfl, hc⟩ := (HI.out.keep HU.out.2.fr).cells (by omega)
                obtain ⟨e1, e2, e3, e4, e5⟩ := hc m g1
                obtain ⟨f1, f2, f3, f4, f5⟩ := HI.out.fit m g1
                have Hf := Lib.hid f3
                clear hc e1 e2 e4 e5 f1 f2 f3 f4 f5
                go_wp2_with fail
                refine (within_any (c m).m 20 _ Hf.out (by omega) (by omega)).mono ?_
                rintro e w8 ⟨rfl, rfl⟩
                clear e3
                go_wp2_with fail
                refine (Make_any p kind ((c m).m % 20) S u _ HU.out.2.arena HK.out).mono ?_
                rintro e w9 ⟨rfl, q1⟩
                obtain ⟨S9, hq⟩ := HU.out.2.turned q1
                have HS9 := Lib.hid hq
                clear q1 hq
                go_wp2
                go_roundw
                case rel => exact ⟨m + 1, S9, _, by omega, by omega, by go_num, HU.out.1.make _ _, HS9.out⟩
                case measure => simp [intOf]; omega
              · go_wp2
                go_roundw
                case rel => exact ⟨k + 1, S, u, by omega, by go_num, HU.out.1, HU.out.2⟩
                case measure => simp [intOf]; omega
            · go_wp2
              go_roundw
              case rel => exact ⟨k + 1, S, u, by omega, by go_num, HU.out.1, HU.out.2⟩
              case measure => simp [intOf]; omega
    · go_wp2
      go_ret
      exact ⟨rfl, HS.out.1.fr⟩
end Go.Proofs.Ytniifefmjdjebaa
namespace Go.Proofs.Ytniifefmjdjebaa
open Go.RowKit
set_option linter.unusedVariables false
set_option linter.unusedSimpArgs false

/-- The address of the j-th object. -/
def adr (L : List Ob) (j : Nat) : Int := (tot (L.take j) : Int) + 8
theorem tot_take_mono (L : List Ob) {j j' : Nat} (h : j < j') (hj : j < L.length) : tot (L.take j) + 16 ≤ tot (L.take j') := by
  have h1 := tot_take_succ L j hj
  have h2 := tot_take_le (L.take j') (j + 1)
  rw [List.take_take, Nat.min_eq_left (by omega)] at h2
  omega
theorem adr_inj (L : List Ob) {j j' : Nat} (hj : j < L.length) (hj' : j' < L.length) (h : adr L j = adr L j') : j = j' := by
  unfold adr at h
  rcases Nat.lt_trichotomy j j' with h1 | h1 | h1
  · have := tot_take_mono L h1 hj; omega
  · exact h1
  · have := tot_take_mono L h1 hj'; omega
theorem find_adr (L : List Ob) (j : Nat) (h : j < L.length) : findOb 0 L (adr L j) = some L[j] := find_get L j h
/-- The order in which the law copies: from the r-th on, round. -/
def rot (L : List Ob) (r : Nat) : List Ob := L.drop r ++ L.take r
theorem rot_length (L : List Ob) (r : Nat) (h : r ≤ L.length) : (rot L r).length = L.length := by simp [rot]; omega
theorem rot_tot (L : List Ob) (r : Nat) : tot (rot L r) = tot L := by
  have : tot L = tot (L.take r) + tot (L.drop r) := by rw [← tot_append, List.take_append_drop]
  rw [rot, tot_append]; omega
theorem rot_at (L : List Ob) (r i : Nat) (hr : r < L.length) (hi : i < L.length) : (rot L r)[i]? = L[(i + r) % L.length]? := by
  unfold rot
  by_cases h : i < L.length - r
  · rw [List.getElem?_append_left (by simp; omega), List.getElem?_drop, Nat.mod_eq_of_lt (by omega), Nat.add_comm]
  · rw [List.getElem?_append_right (by simp; omega), List.length_drop, List.getElem?_take_of_lt (by omega), Nat.mod_eq_sub_mod (by omega), Nat.mod_eq_of_lt (by omega)]
    congr 1; omega
theorem rot_inj {n r i j : Nat} (hr : r < n) (hi : i < n) (hj : j < n) (h : (i + r) % n = (j + r) % n) : i = j := by
  rcases Nat.lt_or_ge (i + r) n with h1 | h1 <;> rcases Nat.lt_or_ge (j + r) n with h2 | h2
  · rw [Nat.mod_eq_of_lt h1, Nat.mod_eq_of_lt h2] at h; omega
  · rw [Nat.mod_eq_of_lt h1, Nat.mod_eq_sub_mod h2, Nat.mod_eq_of_lt (by omega)] at h; omega
  · rw [Nat.mod_eq_of_lt h2, Nat.mod_eq_sub_mod h1, Nat.mod_eq_of_lt (by omega)] at h; omega
  · rw [Nat.mod_eq_sub_mod h1, Nat.mod_eq_of_lt (a := i + r - n) (by omega), Nat.mod_eq_sub_mod h2, Nat.mod_eq_of_lt (a := j + r - n) (by omega)] at h; omega
/-- The arena when k objects have been copied. -/
structure Cp (L : List Ob) (r semi k : Nat) (u : AS) : Prop where
  used : u.used = (rot L r).take k
  ahead : u.ahead = L
  semi : u.semi = semi
  moved : ∀ i, k ≤ i → i < L.length → u.moved (adr L ((i + r) % L.length)) = none
theorem Cp.step {L : List Ob} {r semi k : Nat} {u : AS} (h : Cp L r semi k u) (hr : r < L.length) (hk : k < L.length) (ht : tot L ≤ semi) (hsz : ∀ x ∈ L, x.vs.length ≤ 65536) (j : Nat) (hj : j = (k + r) % L.length) (x : Ob) (hx : L[j]? = some x) :
    u.copyA (adr L j) = tot u.used + 8 ∧ u.copyE (adr L j) = 0 ∧ ∃ u', u.copy (adr L j) = u' ∧ Cp L r semi (k + 1) u' ∧ u'.copyA (adr L j) = tot u.used + 8 ∧ u'.copyE (adr L j) = 0 ∧ u'.copy (adr L j) = u' ∧ findOb 0 u'.used ((tot u.used : Int) + 8) = some x := by
  have hjn : j < L.length := by rw [hj]; exact Nat.mod_lt _ (by omega)
  have hf : findOb 0 u.ahead (adr L j) = some x := by
    rw [h.ahead]
    have := find_get L j hjn
    rw [List.getElem?_eq_getElem hjn] at hx
    rw [Option.some.inj hx] at this
    exact this
  have hm : u.moved (adr L j) = none := by rw [hj]; exact h.moved k (Nat.le_refl _) hk
  have hMk : (rot L r)[k]? = some x := by rw [rot_at L r k hr hk, ← hj, hx]
  have hkM : k < (rot L r).length := by rw [rot_length L r (by omega)]; exact hk
  have hMk' : (rot L r)[k] = x := by rw [List.getElem?_eq_getElem hkM] at hMk; exact Option.some.inj hMk
  have hroom : roomB u x.vs.length = true := by
    apply roomB_true
    have h1 := tot_take_succ (rot L r) k hkM
    have h2 := tot_take_le (rot L r) (k + 1)
    rw [rot_tot] at h2
    rw [hMk'] at h1
    have h3 := hsz x (List.mem_of_getElem? hx)
    rw [h.semi, h.used]
    omega
  have e1 : u.copyA (adr L j) = tot u.used + 8 := by unfold AS.copyA; rw [hf, hm]; simp only [hroom, if_true]
  have e2 : u.copyE (adr L j) = 0 := by unfold AS.copyE; rw [hf, hm]; simp only [hroom, if_true]
  have e3 : u.copy (adr L j) = u.copied (adr L j) x := by unfold AS.copy; rw [hf, hm]; simp only [hroom, if_true]
  have hm' : (u.copied (adr L j) x).moved (adr L j) = some ((tot u.used : Int) + 8) := if_pos rfl
  have hf' : findOb 0 (u.copied (adr L j) x).ahead (adr L j) = some x := hf
  refine ⟨e1, e2, _, e3, ⟨?_, h.ahead, h.semi, fun i h1 h2 => ?_⟩, ?_, ?_, ?_, ?_⟩
  · show u.used ++ [x] = _
    rw [h.used, List.take_succ_eq_append_getElem hkM, hMk']
  · show (if adr L ((i + r) % L.length) = adr L j then some ((tot u.used : Int) + 8) else u.moved (adr L ((i + r) % L.length))) = none
    rw [if_neg, h.moved i (by omega) h2]
    intro he
    have h3 := adr_inj L (Nat.mod_lt _ (by omega)) hjn he
    rw [hj] at h3
    have := rot_inj hr h2 hk h3
    omega
  · unfold AS.copyA; rw [hf', hm']
  · unfold AS.copyE; rw [hf', hm']
  · unfold AS.copy; rw [hf', hm']
  · show findOb 0 (u.used ++ [x]) _ = _
    rw [findOb_append, if_pos (by omega)]
/-- The first k objects hold 7 i in slot 0, where there is one. -/
def Sevens (L : List Ob) (k : Nat) : Prop := ∀ i, i < k → ∀ x, L[i]? = some x → 0 < x.vs.length → x.vs[0]?.getD (0 : Int) = 7 * (i : Int)
theorem put_eq (t : AS) (i : Nat) (hi : i < t.used.length) (v : Int) : ∃ t', t.put (adr t.used i) 0 v = t' ∧ addrs 0 t'.used = addrs 0 t.used ∧ t'.ahead = t.ahead ∧ t'.semi = t.semi ∧
    ∀ i', i' ≠ i → t'.used[i']? = t.used[i']? := by
  refine ⟨_, rfl, addrs_put _ _ _ _, ?_, ?_, ?_⟩
  · unfold AS.put; split <;> rfl
  · unfold AS.put; split <;> rfl
  · intro i' hne
    unfold AS.put
    split
    · have e := setOb_get t.used 0 i (0 : Int).toNat v hi
      rw [show ((0 : Nat) : Int) + tot (t.used.take i) + 8 = adr t.used i from by unfold adr; omega] at e
      show (setOb 0 t.used (adr t.used i) (0 : Int).toNat v)[i']? = _
      rw [e, List.getElem?_set_ne (Ne.symm hne)]
    · rfl
theorem Sevens.put {t : AS} {i : Nat} (h : Sevens t.used i) (hi : i < t.used.length) : Sevens (t.put (adr t.used i) 0 (7 * i)).used (i + 1) := by
  intro i' hi' x hx hp
  obtain ⟨t', e, _, _, _, hother⟩ := put_eq t i hi (7 * i)
  by_cases hne : i' = i
  · subst hne
    unfold AS.put at hx
    split at hx
    · have e := setOb_get t.used 0 i' (0 : Int).toNat (7 * i') hi
      rw [show ((0 : Nat) : Int) + tot (t.used.take i') + 8 = adr t.used i' from by unfold adr; omega] at e
      simp only at hx
      rw [e, List.getElem?_set_self hi] at hx
      simp only [Option.some.injEq] at hx
      subst hx
      simp only [List.length_set] at hp
      show ((t.used[i']?.getD ⟨0, []⟩).vs.set 0 (7 * (i' : Int)))[0]?.getD 0 = _
      rw [List.getElem?_set_self hp]
      rfl
    · rename_i hne
      rw [find_adr t.used i' hi] at hne
      rw [List.getElem?_eq_getElem hi] at hx
      obtain rfl := Option.some.inj hx
      exact absurd (show slotE (some t.used[i']) 0 = 0 from if_neg (by omega)) hne
  · rw [e, hother i' hne] at hx
    exact h i' (by omega) x hx hp
end Go.Proofs.Ytniifefmjdjebaa
namespace Go.Proofs.Ytniifefmjdjebaa
open Go.RowKit
set_option linter.unusedVariables false
set_option linter.unusedSimpArgs false

theorem addrs_adr (L : List Ob) (j : Nat) (h : j < L.length) : (addrs 0 L)[j]?.getD 0 = adr L j := by
  rw [addrs_get L 0 j h]; unfold adr; omega
theorem Sx.rowI {w0 w : World} {p : Nat} {S : Nat → Prop} {s : AS} {R : List KRow} {v : Value} {e : TypeId} {k : IntKind} {xs : List Int} (h : Sx w0 w p S s R) (hr : (v, e, xs.map (Value.int k)) ∈ R) : w.ownsRow 0 e 1 v xs.length (xs.map (Value.int k)) := by
  have := (h.st.rows _ hr).1
  simpa using this
theorem IsArena.fits {w : World} {p : Nat} {S : Nat → Prop} {s : AS} (h : IsArena w p S s) : tot s.used ≤ s.semi := by
  obtain ⟨vb, vl, m, vb', vl', mo', mv, hp, h1, h2, h3, h4, h5, h6, h7, h8, h9, h10, h11, hS⟩ := h
  exact h9
/-- The kinds and the sizes of the first objects, as cells. -/
def kindsOf (L : List Ob) (m : Nat) : List Value := (L.take m).map fun x => .int .i64 x.kind
def sizesOf (L : List Ob) (m : Nat) : List Value := (L.take m).map fun x => .int .i64 x.vs.length
theorem kindsOf_length (L : List Ob) (m : Nat) (h : m ≤ L.length) : (kindsOf L m).length = m := by simp [kindsOf]; omega
theorem sizesOf_length (L : List Ob) (m : Nat) (h : m ≤ L.length) : (sizesOf L m).length = m := by simp [sizesOf]; omega
theorem kindsOf_succ (L : List Ob) (m : Nat) (h : m < L.length) : kindsOf L m ++ [.int .i64 L[m].kind] = kindsOf L (m + 1) := by
  unfold kindsOf; rw [List.take_succ_eq_append_getElem h, List.map_append]; rfl
theorem sizesOf_succ (L : List Ob) (m : Nat) (h : m < L.length) : sizesOf L m ++ [.int .i64 L[m].vs.length] = sizesOf L (m + 1) := by
  unfold sizesOf; rw [List.take_succ_eq_append_getElem h, List.map_append]; rfl
theorem kindsOf_get (L : List Ob) (m j : Nat) (h : m ≤ L.length) (hj : j < m) (x : Ob) (hx : L[j]? = some x) : (kindsOf L m)[j]? = some (.int .i64 x.kind) := by
  unfold kindsOf; rw [List.getElem?_map, List.getElem?_take_of_lt hj, hx]; rfl
theorem sizesOf_get (L : List Ob) (m j : Nat) (h : m ≤ L.length) (hj : j < m) (x : Ob) (hx : L[j]? = some x) : (sizesOf L m)[j]? = some (.int .i64 x.vs.length) := by
  unfold sizesOf; rw [List.getElem?_map, List.getElem?_take_of_lt hj, hx]; rfl
set_option maxRecDepth 100000 in
set_option maxHeartbeats 4000000 in
theorem ArenaCopies_any (semi : Int) (a1 : Option Addr) (len1 cap1 : Nat) (c : Nat → CallD) (by_ : Int) (w : World) (hs : I64 semi) (h1 : CallsIn w a1 len1 c) (hby : I64 by_) :
    Calls Try.prog 7 #[.int .i64 semi, .slice a1 len1 cap1, .int .i64 by_] w fun e w' => e = .returned (.bool true) ∧ Fr (fun _ => False) w w' := by
  have HI := Lib.hid h1; clear h1
  have HBy := Lib.hid hby; clear hby
  obtain ⟨i3, hi3, hz3, hs3, hb3⟩ := info_parts info3
  go_enter Try.func7, Try.ntmps7
  go_wp2_with fail
  refine (known_any _).mono ?_
  rintro e w1 ⟨rfl, hf1⟩
  have HF1 := Lib.hid hf1; clear hf1
  go_wp2_with fail
  refine (made_any semi a1 len1 cap1 c _ hs (HI.out.keep HF1.out)).mono ?_
  intro e w2 hm
  obtain ⟨p, S, rfl, hst⟩ := hm.st HF1.out
  have hah := madeS_ahead semi c len1
  obtain ⟨s, hsd⟩ : ∃ s, s = madeS semi c len1 := ⟨_, rfl⟩
  rw [← hsd] at hst hah
  clear hsd hm
  have HS := Lib.hid hst.sx; clear hst hah
  go_wp2_with fail
  refine (All_any p S s _ HS.out.st.arena).mono ?_
  rintro e w3 ⟨vl, rfl, q1, q2, q3⟩
  have HS3 := Lib.hid (HS.out.row q1 q2 q3)
  clear q1 q2 q3
  obtain ⟨s1, s2⟩ := HS3.out.st.small
  obtain ⟨al, cl, rfl⟩ := row_form (HS3.out.st.rowAt (t := s) List.mem_cons_self)
  obtain ⟨rA, hrA⟩ : ∃ r, r = rowA (.slice al s.used.length cl) s := ⟨_, rfl⟩
  rw [show ((Value.slice al s.used.length cl, 2, (addrs 0 s.used).map (Value.int .i64)) : KRow) = rA from hrA.symm] at HS3
  have HrA := Lib.hid hrA; clear hrA
  obtain ⟨n, hn⟩ : ∃ n, n = s.used.length := ⟨_, rfl⟩
  rw [← hn] at HrA s2 ⊢
  have Hn := Lib.hid hn; clear hn
  go_wp2_with fail
  go_loopw [9] (fun i wr => ∃ (k : Nat) (S : Nat → Prop) (t : AS), k ≤ n ∧ i = .int .i64 k ∧ addrs 0 t.used = addrs 0 s.used ∧ Sevens t.used k ∧ Sx w wr p S t [rA]) (fun i _ => (n - intOf i).toNat)
  case atStart => exact ⟨0, S, s, by omega, rfl, rfl, fun i hi => by omega, HS3.out⟩
  case round =>
    obtain ⟨k, S, t, hk, rfl, hadr, hsev, hsx⟩ := hrel
    have HT := Lib.hid (And.intro hadr (And.intro hsev hsx)); clear hadr hsev hsx
    have hnt : n = t.used.length := by rw [Hn.out]; exact (length_of_addrs HT.out.1).symm
    by_cases hlt : k < n
    · have hrow := HT.out.2.2.st.rowAt (t := s) (v := .slice al n cl) (by rw [← HrA.out]; exact List.mem_cons_self)
      rw [← Hn.out] at hrow
      obtain ⟨gl, ql, _, el, _, _, _⟩ := row_addr hrow (by omega)
      simp only [Value.slice.injEq, true_and] at el
      obtain ⟨rfl, rfl⟩ := el
      have hcell := row_int hrow hlt
      rw [← HT.out.1, addrs_adr t.used k (by omega)] at hcell
      have Hnt := Lib.hid hnt
      obtain ⟨a, ha⟩ : ∃ a, a = adr t.used k := ⟨_, rfl⟩
      rw [← ha] at hcell
      have Ha := Lib.hid ha
      clear hrow hnt ha
      go_wp2_with fail
      refine (Put_any p a 0 ((k : Int) * 7) S t _ HT.out.2.2.st.arena ⟨by omega, by omega⟩).mono ?_
      rintro e w4 ⟨rfl, q1, q2⟩
      have HS4 := Lib.hid (HT.out.2.2.put q1 q2)
      clear q1 q2 hcell
      go_wp2
      go_roundw
      case rel =>
        refine ⟨k + 1, S, _, by omega, by go_num, (addrs_put _ _ _ _).trans HT.out.1, ?_, HS4.out⟩
        rw [Ha.out, Int.mul_comm]
        exact HT.out.2.1.put (by have := Hnt.out; omega)
      case measure => simp [intOf]; omega
    · obtain rfl : k = n := by omega
      obtain ⟨L, hL⟩ : ∃ L, L = t.used := ⟨_, rfl⟩
      have HL := Lib.hid hL
      have Hnt := Lib.hid (show k = L.length from by rw [hL]; exact hnt)
      have hX := Lib.hid (show True ∧ tot t.used ≤ t.semi ∧ ∀ x ∈ t.used, x.vs.length ≤ 65536 from ⟨trivial, HT.out.2.2.st.arena.fits, fun x hx => (HT.out.2.2.st.okAt x hx).2.1⟩)
      clear hL hnt
      have HS2 := Lib.hid ((HT.out.2.2.nil 3).nil 3)
      go_wp2_with fail
      go_loopw [10, 11, 12] (fun vk vs i wr => ∃ m : Nat, m ≤ k ∧ i = .int .i64 m ∧ Sx w wr p S t ((vk, 3, kindsOf L m) :: (vs, 3, sizesOf L m) :: [rA])) (fun _ _ i _ => (k - intOf i).toNat)
      case atStart => exact ⟨0, by omega, rfl, HS2.out⟩
      case round =>
        obtain ⟨m, hm, rfl, hsx⟩ := hrel
        have HX := Lib.hid hsx; clear hsx
        by_cases hmlt : m < k
        · have hrow := HX.out.st.rowAt (t := s) (v := .slice al k cl) (by rw [← HrA.out]; exact List.mem_cons_of_mem _ (List.mem_cons_of_mem _ List.mem_cons_self))
          rw [← Hn.out] at hrow
          obtain ⟨gl, ql, _, el, _, _, _⟩ := row_addr hrow (by omega)
          simp only [Value.slice.injEq, true_and] at el
          obtain ⟨rfl, rfl⟩ := el
          have hcell := row_int hrow hmlt
          have hmL : m < L.length := by have := Hnt.out; omega
          rw [← HT.out.1, ← HL.out, addrs_adr L m hmL] at hcell
          have Hfind := Lib.hid (show findOb 0 t.used (adr L m) = some L[m] from by rw [← HL.out]; exact find_adr L m hmL)
          have hok := HX.out.st.okAt L[m] (by rw [← HL.out]; exact List.getElem_mem hmL)
          have hv2 := hok.2.1
          obtain ⟨a, ha⟩ : ∃ a, a = adr L m := ⟨_, rfl⟩
          rw [← ha] at hcell Hfind
          obtain ⟨x, hx⟩ : ∃ x, x = L[m] := ⟨_, rfl⟩
          rw [← hx] at Hfind hv2
          have Hk1 := Lib.hid (show kindsOf L m ++ [.int .i64 x.kind] = kindsOf L (m + 1) from by rw [hx]; exact kindsOf_succ L m hmL)
          have Hk2 := Lib.hid (show sizesOf L m ++ [.int .i64 x.vs.length] = sizesOf L (m + 1) from by rw [hx]; exact sizesOf_succ L m hmL)
          have hl1 := kindsOf_length L m (by omega)
          have hl2 := sizesOf_length L m (by omega)
          have Hl := Lib.hid (And.intro hl1 hl2)
          have hr1 := HX.out.head
          rw [hl1] at hr1
          have Hr1 := Lib.hid hr1
          clear hrow hok ha hx hl1 hl2 hr1
          go_wp2_with fail
          refine (Kind_any p a S t _ HX.out.st.arena).mono ?_
          rw [Hfind.out, show kindOf (some x) = x.kind from rfl]
          rintro e w5 ⟨rfl, rfl⟩
          go_wp2_with fail
          refine (Slots_any p a S t _ HX.out.st.arena).mono ?_
          rw [Hfind.out, show slotsOf (some x) = (x.vs.length : Int) from rfl]
          rintro e w6 ⟨rfl, rfl⟩
          clear hcell
          go_wp2_with (first | (at_builtin; refine wpList_append_own_at _ rfl _ _ 22 rfl 0 3 i3 (.int .i64 0) 1 8 und22 hi3 hz3 hs3 hb3 rfl (by decide) _ _ _ rfl (Hr1.out.alloc _) ⟨w6.heap.size, 0, none⟩ 1 1 [.int .i64 x.kind] rfl rfl ?c1 ?c2 ?c3 ?c4 ?c5 ?_))
          case c1 => exact cell_one_new _ _ _
          case c2 => intro u hu; simp at hu; subst hu; rfl
          case c3 => unfold maxLen; omega
          case c4 => omega
          case c5 => exact Nat.zero_le _
          intro v7 w7 hown7 hgr7 _ hloc7
          have hx7 := HX.out.appended (x := .int .i64 x.kind) (v' := v7) (by rw [Hl.out.1]; exact hown7) hgr7 (by simpa using hloc7)
          have HX7 := Lib.hid hx7.swap
          clear hown7 hgr7 hloc7 hx7
          have hr2 := HX7.out.head
          rw [Hl.out.2] at hr2
          have Hr2 := Lib.hid hr2
          clear hr2
          go_wp2_with (first | (at_builtin; refine wpList_append_own_at _ rfl _ _ 22 rfl 0 3 i3 (.int .i64 0) 1 8 und22 hi3 hz3 hs3 hb3 rfl (by decide) _ _ _ rfl (Hr2.out.alloc _) ⟨w7.heap.size, 0, none⟩ 1 1 [.int .i64 x.vs.length] rfl rfl ?d1 ?d2 ?d3 ?d4 ?d5 ?_))
          case d1 => exact cell_one_new _ _ _
          case d2 => intro u hu; simp at hu; subst hu; rfl
          case d3 => unfold maxLen; omega
          case d4 => omega
          case d5 => exact Nat.zero_le _
          intro v8 w8 hown8 hgr8 _ hloc8
          have hx8 := HX7.out.appended (x := .int .i64 x.vs.length) (v' := v8) (by rw [Hl.out.2]; exact hown8) hgr8 (by simpa using hloc8)
          have HX8 := Lib.hid hx8.swap
          clear hown8 hgr8 hloc8 hx8
          go_wp2
          go_roundw
          case rel =>
            refine ⟨m + 1, by omega, by go_num, ?_⟩
            have h8 := HX8.out
            rw [Hk1.out, Hk2.out] at h8
            exact h8
          case measure => simp [intOf]; omega
        · obtain rfl : m = k := by omega
          have HL2 := Lib.hid (show t.ahead = t.ahead from rfl)
          go_wp2_with fail
          refine (Used_any p S t _ HX.out.st.arena).mono ?_
          rintro e w5 ⟨rfl, rfl⟩
          go_wp2_with fail
          refine (Flip_any p S t _ HX.out.st.arena).mono ?_
          rintro e w6 ⟨rfl, q1⟩
          obtain ⟨S6, hx6⟩ := HX.out.turned q1
          have HX6 := Lib.hid hx6
          obtain ⟨t1, t2⟩ := HX.out.st.small
          clear q1 hx6
          go_wp2_with fail
          refine (Used_any p S6 _ _ HX6.out.st.arena).mono ?_
          rintro e w7 ⟨rfl, rfl⟩
          rw [show ((tot ([] : List Ob) : Nat) : Int) = 0 from rfl]
          go_wp2_with fail
          refine (All_any p S6 _ _ HX6.out.st.arena).mono ?_
          rintro e w8 ⟨v8, rfl, q1, q2, q3⟩
          have HX8 := Lib.hid (HX6.out.kept q2)
          obtain ⟨a8, c8, rfl⟩ := row_form q1
          rw [show ((addrs 0 ([] : List Ob)).map (Value.int .i64)).length = 0 from rfl]
          clear q1 q2 q3
          go_wp2_with fail
          obtain ⟨r0, hr0⟩ : ∃ r0, r0 = (by_ % (m : Int)).toNat := ⟨_, rfl⟩
          have HR0 := Lib.hid hr0
          clear hr0
          go_loopw [18] (fun i wr => ∃ (k : Nat) (S : Nat → Prop) (u : AS), k ≤ m ∧ i = .int .i64 k ∧ Cp L r0 t.semi k u ∧ Sx w wr p S u ((u10, 3, kindsOf L m) :: (u11, 3, sizesOf L m) :: [rA])) (fun i _ => (m - intOf i).toNat)
          case atStart => exact ⟨0, S6, ⟨[], t.used, fun _ => none, t.semi⟩, by omega, rfl, ⟨by simp, HL.out.symm, rfl, fun _ _ _ => rfl⟩, HX8.out⟩
          case round =>
            obtain ⟨k, Sk, u, hk, rfl, hcp, hsx⟩ := hrel
            have HC := Lib.hid (And.intro hcp hsx)
            clear hcp hsx
            by_cases hkm : k < m
            · have hm0 : 1 ≤ (m : Int) := by omega
              have hb : by_ % (m : Int) = (r0 : Int) := by rw [HR0.out]; exact (Int.toNat_of_nonneg (Int.emod_nonneg _ (by omega))).symm
              have hrm : r0 < m := by have := Int.emod_lt_of_pos by_ (show (0 : Int) < m by omega); omega
              have hmb : (m : Int) ≤ 1048576 := by omega
              have HB := Lib.hid hb
              clear hb
              go_wp2_with fail
              refine (within_any by_ m _ HBy.out hm0 hmb).mono ?_
              rw [HB.out]
              rintro e w9 ⟨rfl, rfl⟩
              obtain ⟨j, hj⟩ : ∃ j, j = (k + r0) % m := ⟨_, rfl⟩
              have hjm : j < m := by rw [hj]; exact Nat.mod_lt _ (by omega)
              have hjt : ((k : Int) + r0) % m = j := by rw [hj]; push_cast; rfl
              have hne : ((m : Int) == 0) = false := by rw [beq_eq_false_iff_ne]; omega
              have hmL : m = L.length := Hnt.out
              have hjL : j < L.length := by omega
              have hL1 : tot L ≤ t.semi := by rw [HL.out]; exact hX.out.2.1
              have hL2 : ∀ x ∈ L, x.vs.length ≤ 65536 := by rw [HL.out]; exact hX.out.2.2
              have hrowA := HC.out.2.st.rowAt (t := s) (v := .slice al m cl) (by rw [← HrA.out]; exact List.mem_cons_of_mem _ (List.mem_cons_of_mem _ List.mem_cons_self))
              rw [← Hn.out] at hrowA
              obtain ⟨gl, ql, _, el, _, _, _⟩ := row_addr hrowA (by omega)
              simp only [Value.slice.injEq, true_and] at el
              obtain ⟨rfl, rfl⟩ := el
              have hcell := row_int hrowA hjm
              rw [← HT.out.1, ← HL.out, addrs_adr L j hjL] at hcell
              obtain ⟨x, hx⟩ : ∃ x, x = L[j] := ⟨_, rfl⟩
              have hxj : L[j]? = some x := by rw [List.getElem?_eq_getElem hjL, hx]
              have Hx := Lib.hid hxj
              have Hj := Lib.hid (hmL ▸ hj)
              obtain ⟨g1, g2, u', g3, g4, g5, g6, g7, g8⟩ := HC.out.1.step (by omega) (by omega) hL1 hL2 j Hj.out x hxj
              have HG := Lib.hid (And.intro g1 (And.intro g2 (And.intro g3 (And.intro g4 (And.intro g5 (And.intro g6 (And.intro g7 g8)))))))
              have hu1 := HC.out.2.st.small.1
              have HjL := Lib.hid hjL
              obtain ⟨a, ha⟩ : ∃ a, a = adr L j := ⟨_, rfl⟩
              rw [← ha] at hcell HG
              have Ha := Lib.hid ha
              clear hmL hjL hrowA hx hxj hj g1 g2 g3 g4 g5 g6 g7 g8 hL1 hL2 ha
              go_wp2_with fail
              refine (Copy_any p a Sk u _ HC.out.2.st.arena).mono ?_
              rintro e w10 ⟨rfl, q1⟩
              rw [HG.out.1, HG.out.2.1]
              rw [HG.out.2.2.1] at q1
              obtain ⟨S10, hx10⟩ := HC.out.2.turned q1
              have HX10 := Lib.hid hx10
              have hrowB := hx10.st.rowAt (t := s) (v := .slice (some ⟨gl, 0, none⟩) m cl) (by rw [← HrA.out]; exact List.mem_cons_of_mem _ (List.mem_cons_of_mem _ List.mem_cons_self))
              rw [← Hn.out] at hrowB
              have hcell2 := row_int hrowB hjm
              rw [← HT.out.1, ← HL.out, addrs_adr L j HjL.out, ← Ha.out] at hcell2
              clear q1 hx10 hrowB
              obtain ⟨tu, htu⟩ : ∃ tu, tu = tot u.used := ⟨_, rfl⟩
              rw [← htu] at HG hu1 ⊢
              have HTu := Lib.hid htu
              clear htu
              go_wp2_with fail
              refine (Copy_any p a S10 u' _ HX10.out.st.arena).mono ?_
              rintro e w11 ⟨rfl, q1⟩
              rw [HG.out.2.2.2.2.1, HG.out.2.2.2.2.2.1]
              rw [HG.out.2.2.2.2.2.2.1] at q1
              obtain ⟨S11, hx11⟩ := HX10.out.turned q1
              have HX11 := Lib.hid hx11
              clear q1 hx11
              go_wp2_with fail
              refine (Kind_any p _ S11 u' _ HX11.out.st.arena).mono ?_
              rw [HG.out.2.2.2.2.2.2.2, show kindOf (some x) = x.kind from rfl]
              rintro e w12 ⟨rfl, rfl⟩
              go_wp2_with fail
              refine (Slots_any p _ S11 u' _ HX11.out.st.arena).mono ?_
              rw [HG.out.2.2.2.2.2.2.2, show slotsOf (some x) = (x.vs.length : Int) from rfl]
              rintro e w13 ⟨rfl, rfl⟩
              go_wp2_with fail
              refine (Get_any p _ 0 S11 u' _ HX11.out.st.arena).mono ?_
              rw [HG.out.2.2.2.2.2.2.2]
              rintro e w14 ⟨rfl, nd, rfl⟩
              have HX14 := Lib.hid (HX11.out.drewN nd)
              have hr1 := HX14.out.head
              have hr2 := HX14.out.swap.head
              have hmle : m ≤ L.length := by have := Hnt.out; omega
              rw [kindsOf_length L m hmle] at hr1
              rw [sizesOf_length L m hmle] at hr2
              obtain ⟨gk, qk, _, ek, _, _, _⟩ := row_addr hr1 (by omega)
              obtain ⟨gs, qs, _, es, _, _, _⟩ := row_addr hr2 (by omega)
              subst ek es
              have hk1 := row_cell hr1 (kindsOf_get L m j hmle hjm x Hx.out)
              have hk2 := row_cell hr2 (sizesOf_get L m j hmle hjm x Hx.out)
              have Hxv := Lib.hid (And.intro hk2 (HT.out.2.1 j hjm x (by rw [← HL.out]; exact Hx.out)))
              clear hr1 hr2 hk2
              by_cases hn0 : x.vs.length = 0
              · have hk2 := Hxv.out.1
                rw [hn0] at hk2 ⊢
                obtain ⟨gv, hgv⟩ : ∃ gv, gv = getV (some x) 0 := ⟨_, rfl⟩
                obtain ⟨ge, hge⟩ : ∃ ge, ge = slotE (some x) 0 := ⟨_, rfl⟩
                rw [← hgv, ← hge]
                clear hgv hge hn0
                go_wp2
                go_roundw
                case rel => exact ⟨k + 1, S11, u', by omega, by go_num, HG.out.2.2.2.1, HX14.out⟩
                case measure => simp [intOf]; omega
              · have hgv : getV (some x) 0 = (j : Int) * 7 := by
                  have h7 := Hxv.out.2 (by omega)
                  rw [List.getElem?_eq_getElem (by omega), Option.getD_some] at h7
                  unfold getV
                  simp only
                  rw [if_neg (by omega), Int.toNat_zero, List.getD_eq_getElem?_getD, List.getElem?_eq_getElem (by omega), Option.getD_some, h7, Int.mul_comm]
                have hge : slotE (some x) 0 = 0 := by
                  unfold slotE
                  simp only
                  rw [if_neg (by omega)]
                have hk2 := Hxv.out.1
                rw [hgv, hge]
                obtain ⟨xl, hxl⟩ : ∃ xl, xl = x.vs.length := ⟨_, rfl⟩
                rw [← hxl] at hk2 hn0 ⊢
                clear hxl hgv hge
                have hpos : (0 : Int) < xl := by omega
                go_wp2
                go_roundw
                case rel => exact ⟨k + 1, S11, u', by omega, by go_num, HG.out.2.2.2.1, HX14.out⟩
                case measure => simp [intOf]; omega
            · obtain rfl : k = m := by omega
              go_wp2_with fail
              refine (Copy_any p 3 Sk u _ HC.out.2.st.arena).mono ?_
              rintro e w9 ⟨rfl, q1⟩
              have hf3 := findOb_lt u.ahead 0 3 (by decide)
              rw [show u.copyA 3 = 0 from by unfold AS.copyA; rw [hf3], show u.copyE 3 = 57 from by unfold AS.copyE; rw [hf3]]
              rw [show u.copy 3 = u from by unfold AS.copy; rw [hf3]] at q1
              obtain ⟨S9, hx9⟩ := HC.out.2.turned q1
              have HX9 := Lib.hid hx9
              clear q1 hx9 hf3
              have Htot := Lib.hid (show tot u.used = tot t.used from by
                have h1 := HC.out.1.used
                have h2 := Hnt.out
                rw [h1, ← HL.out, h2, List.take_of_length_le (by simp [rot]; omega), rot_tot])
              go_wp2_with fail
              refine (Used_any p S9 u _ HX9.out.st.arena).mono ?_
              rintro e w10 ⟨rfl, rfl⟩
              rw [Htot.out]
              go_wp2_with fail
              refine (Flip_any p S9 u _ HX9.out.st.arena).mono ?_
              rintro e w11 ⟨rfl, q1⟩
              obtain ⟨S11, hx11⟩ := HX9.out.turned q1
              have HX11 := Lib.hid hx11
              clear q1 hx11
              go_wp2_with fail
              refine (Flip_any p S11 _ _ HX11.out.st.arena).mono ?_
              rintro e w12 ⟨rfl, q1⟩
              obtain ⟨S12, hx12⟩ := HX11.out.turned q1
              have HX12 := Lib.hid hx12
              clear q1 hx12
              go_wp2_with fail
              refine (Copy_any p 8 S12 _ _ HX12.out.st.arena).mono ?_
              rintro e w13 ⟨rfl, q1⟩
              obtain ⟨S13, hx13⟩ := HX12.out.turned q1
              rw [show AS.copyE _ 8 = 57 from rfl]
              have HX13 := Lib.hid hx13
              clear q1 hx13
              obtain ⟨va, hva⟩ : ∃ va, va = AS.copyA ⟨[], [], fun _ => none, u.semi⟩ 8 := ⟨_, rfl⟩
              rw [← hva]
              clear hva
              go_wp2
              go_ret
              exact ⟨rfl, HX13.out.st.fr⟩
end Go.Proofs.Ytniifefmjdjebaa
