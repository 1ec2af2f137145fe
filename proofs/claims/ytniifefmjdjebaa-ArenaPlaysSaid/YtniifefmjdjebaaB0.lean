/- Walk: Copy. -/
import Derived.Test.YtniifefmjdjebaaA9
import Derived.Laws.CopyOwn
namespace Go.Proofs.Ytniifefmjdjebaa
open Go.RowKit
set_option linter.unusedVariables false
set_option linter.unusedSimpArgs false

def AS.copied (s : AS) (a : Int) (x : Ob) : AS := { s with used := s.used ++ [x], moved := fun k => if k = a then some (tot s.used + 8) else s.moved k }
def AS.copyA (s : AS) (a : Int) : Int := match findOb 0 s.ahead a with | none => 0 | some x => match s.moved a with | some t => t | none => if roomB s x.vs.length then tot s.used + 8 else 0
def AS.copyE (s : AS) (a : Int) : Int := match findOb 0 s.ahead a with | none => 57 | some x => match s.moved a with | some _ => 0 | none => if roomB s x.vs.length then 0 else 7
def AS.copy (s : AS) (a : Int) : AS := match findOb 0 s.ahead a with | none => s | some x => match s.moved a with | some _ => s | none => if roomB s x.vs.length then s.copied a x else s
/-- A row behind a splice. -/
theorem row_splice {w : World} {base e g n cap : Nat} {xs : List Value} {cur : Array Value} (h : w.ownsRow base e 1 (.slice (some ⟨g, 0, none⟩) n cap) n xs) (hg : w.heap[g]? = some (.cells cur e (0, 0))) (off : Nat) (cs : List Value) (hf : off + cs.length ≤ n) :
    (w.setRow g (cur.toList.take off ++ (cs ++ cur.toList.drop (off + cs.length))).toArray).ownsRow base e 1 (.slice (some ⟨g, 0, none⟩) n cap) n (xs.take off ++ cs ++ xs.drop (off + cs.length)) := by
  rcases h.2 with ⟨h0, _⟩ | ⟨g', cap', cur', h1, hb, h2, h3, h4, h5, h6⟩
  · simp at h0
  · simp only [Value.slice.injEq, Option.some.injEq, Addr.mk.injEq, and_true, true_and] at h1
    obtain ⟨rfl, rfl⟩ := h1
    rw [hg] at h2
    simp only [Option.some.injEq, Obj.cells.injEq, and_true] at h2
    obtain rfl := h2
    have hl : xs.length = n := by simpa using h.1
    refine ⟨by simp; omega, .inr ⟨g, cap, _, rfl, hb, setRow_heap w g cur _ e _ hg, h3, h4, by simp; omega, ?_⟩⟩
    rw [Nat.mul_one] at h6 ⊢
    have hcn : n ≤ cur.toList.length := by simp; omega
    have e1 : cur.toList = xs ++ cur.toList.drop n := by rw [← h6, List.take_append_drop]
    generalize cur.toList.drop n = tl at e1
    have e2 : (xs ++ tl).take off = xs.take off := List.take_append_of_le_length (by omega)
    have e3 : (xs ++ tl).drop (off + cs.length) = xs.drop (off + cs.length) ++ tl := List.drop_append_of_le_length (by omega)
    simp only [e1, e2, e3]
    rw [← List.append_assoc, ← List.append_assoc, List.take_append_of_le_length (by simp; omega), List.take_of_length_le (by simp; omega)]
/-- The arena behind a store into the map of what was moved. -/
theorem IsArena.marked {w : World} {p : Nat} {S : Nat → Prop} {s : AS} (h : IsArena w p S s) (a t : Int) :
    ∃ mv o, w.cell? ⟨p, 6, none⟩ = some (.map (some mv)) ∧ (∀ W : World, W.heap[mv]? = w.heap[mv]? → (Instr.mapUpdate 90 (.map (some mv)) (.int .i64 a) (.int .i64 t)).run Try.prog W = .ok () (ChangeMaps.setBlock W mv o)) ∧
      IsArena (ChangeMaps.setBlock w mv o) p S { s with moved := fun k => if k = a then some t else s.moved k } ∧ Fr S w (ChangeMaps.setBlock w mv o) := by
  obtain ⟨vb, vl, m, vb', vl', mo', mv, hp, h1, h2, h3, h4, h5, h6, h7, h8, h9, h10, h11, hS⟩ := h
  obtain ⟨o, ho1, ho2⟩ := h4.put und90 i64k a t
  have hfr : Fr (fun k => k = mv) w (ChangeMaps.setBlock w mv o) := Fr.setBlock w mv o rfl
  obtain ⟨es, c, hb, _⟩ := h4
  have hpm : p ≠ mv := by rintro rfl; rw [hp] at hb; simp at hb
  refine ⟨mv, o, blk_cell hp 6, ho1, ⟨vb, vl, m, vb', vl', mo', mv, hfr.heap hp hpm, h1.keep hfr (fun k hk e => row_ne_map h1.bytes hb (by rw [← e, hk])) (fun k hk e => h6 (by simp at hk; omega)),
    hfr.row h2 (fun k hk e => row_ne_map h2 hb (by rw [← e, hk])), h3.keep hfr (fun k hk e => row_ne_map h3.bytes hb (by rw [← e, hk])) (fun k hk e => h8 (by rw [hk, e])), ho2 w rfl, h5, h6, h7, h8, h9, h10, h11, hS⟩, hfr.mono (fun i _ e => (hS i).2 (.inr (.inr (.inr (.inr (.inr (.inr e)))))))⟩
/-- The ahead half of an arena, and its cells. -/
theorem IsArena.ahead {w : World} {p : Nat} {S : Nat → Prop} {s : AS} (h : IsArena w p S s) : ∃ vb mo, w.cell? ⟨p, 3, none⟩ = some vb ∧ w.cell? ⟨p, 3 + 2, none⟩ = some (.map mo) ∧ HalfOf w vb mo s.ahead := by
  obtain ⟨vb, vl, m, vb', vl', mo', mv, hp, h1, h2, h3, _⟩ := h
  exact ⟨vb', mo', blk_cell hp 3, blk_cell hp 5, h3⟩
theorem IsArena.look {w : World} {p : Nat} {S : Nat → Prop} {s : AS} (h : IsArena w p S s) (a : Int) : ∃ mv, w.cell? ⟨p, 6, none⟩ = some (.map (some mv)) ∧ (Instr.lookup 90 (.map (some mv)) (.int .i64 a) true).run Try.prog w = .ok (.tuple #[.int .i64 ((s.moved a).getD 0), .bool (s.moved a).isSome]) w := by
  obtain ⟨vb, vl, m, vb', vl', mo', mv, hp, h1, h2, h3, h4, _⟩ := h
  exact ⟨mv, blk_cell hp 6, h4.look und90 i64k zero2 a⟩
def CopyOk (p : Nat) (a : Int) (S : Nat → Prop) (s : AS) (w : World) (e : Ending) (w' : World) : Prop := e = .returned (.tuple #[.int .i64 (s.copyA a), .int .i64 (s.copyE a)]) ∧ Turned w w' p S (s.copy a)
set_option maxRecDepth 100000 in
set_option maxHeartbeats 400000 in
theorem Copy_none (p : Nat) (a : Int) (S : Nat → Prop) (s : AS) (w : World) (h : IsArena w p S s) (hx : findOb 0 s.ahead a = none) :
    Calls Try.prog 35 #[.pointer (some ⟨p, 0, none⟩), .int .i64 a] w (CopyOk p a S s w) := by
  obtain ⟨vb, mo, c3, c5, hh⟩ := h.ahead
  have H := Lib.hid (is_any p 3 a vb mo s.ahead w c5 hh)
  rw [hx] at H
  have Hf := Lib.hid (show CopyOk p a S s w (.returned (.tuple #[.int .i64 0, .int .i64 57])) w from by
    unfold CopyOk AS.copyA AS.copyE AS.copy; rw [hx]; exact ⟨rfl, Turned.same h (Fr.refl _ _)⟩)
  clear h hh hx c3 c5
  go_enter Try.func35, Try.ntmps35
  go_wp2_with fail
  refine H.out.mono ?_
  rintro e w' ⟨rfl, rfl⟩
  go_wp2
  go_ret2
  exact Hf.out
set_option maxRecDepth 100000 in
set_option maxHeartbeats 400000 in
theorem Copy_again (p : Nat) (a : Int) (S : Nat → Prop) (s : AS) (w : World) (h : IsArena w p S s) (x : Ob) (hx : findOb 0 s.ahead a = some x) (t : Int) (ht : s.moved a = some t) :
    Calls Try.prog 35 #[.pointer (some ⟨p, 0, none⟩), .int .i64 a] w (CopyOk p a S s w) := by
  obtain ⟨vb, mo, c3, c5, hh⟩ := h.ahead
  have H := Lib.hid (is_any p 3 a vb mo s.ahead w c5 hh)
  rw [hx] at H
  obtain ⟨mv, c6, hlook⟩ := h.look a
  rw [ht] at hlook
  simp only [Option.getD_some, Option.isSome_some] at hlook
  have Hf := Lib.hid (show CopyOk p a S s w (.returned (.tuple #[.int .i64 t, .int .i64 0])) w from by
    unfold CopyOk AS.copyA AS.copyE AS.copy; rw [hx, ht]; exact ⟨rfl, Turned.same h (Fr.refl _ _)⟩)
  clear h hh hx c3 c5 ht
  go_enter Try.func35, Try.ntmps35
  go_wp2_with fail
  refine H.out.mono ?_
  rintro e w' ⟨rfl, rfl⟩
  go_wp2
  go_ret2
  exact Hf.out
set_option maxRecDepth 100000 in
set_option maxHeartbeats 400000 in
theorem Copy_full (p : Nat) (a : Int) (S : Nat → Prop) (s : AS) (w : World) (h : IsArena w p S s) (x : Ob) (hx : findOb 0 s.ahead a = some x) (ht : s.moved a = none) (hr : roomB s x.vs.length = false) :
    Calls Try.prog 35 #[.pointer (some ⟨p, 0, none⟩), .int .i64 a] w (CopyOk p a S s w) := by
  obtain ⟨vb, mo, c3, c5, hh⟩ := h.ahead
  have H := Lib.hid (is_any p 3 a vb mo s.ahead w c5 hh)
  rw [hx] at H
  obtain ⟨mv, c6, hlook⟩ := h.look a
  rw [ht] at hlook
  simp only [Option.getD_none, Option.isSome_none] at hlook
  have H2 := Lib.hid (slots_any p 3 a vb mo s.ahead x w c3 hh hx)
  have H3 := Lib.hid (room_any p x.vs.length S s w h)
  rw [hr] at H3
  have Hf := Lib.hid (show ∀ k, CopyOk p a S s w (.returned (.tuple #[.int .i64 0, .int .i64 7])) (w.drewN k) from by
    intro k
    unfold CopyOk AS.copyA AS.copyE AS.copy; rw [hx, ht]; simp only [hr]; exact ⟨rfl, Turned.same (h.drewN k) (Fr.drewN _ _ _)⟩)
  clear h hh hx c3 c5 ht hr
  go_enter Try.func35, Try.ntmps35
  go_wp2_with fail
  refine H.out.mono ?_
  rintro e w' ⟨rfl, rfl⟩
  go_wp2_with fail
  refine H2.out.mono ?_
  rintro e w' ⟨rfl, rfl⟩
  go_wp2_with fail
  refine H3.out.mono ?_
  rintro e w' ⟨rfl, k, rfl⟩
  go_wp2
  go_ret2
  exact Hf.out k
end Go.Proofs.Ytniifefmjdjebaa
