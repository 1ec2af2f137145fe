/- The arena as a whole; walks of its methods that only read. -/
import Derived.Test.YtniifefmjdjebaaA5
import Derived.Deep.QuietTactic
import Derived.BigQuiet
import Derived.StillTailTactics
namespace Go.Proofs.Ytniifefmjdjebaa
open Go.RowKit
set_option linter.unusedVariables false
set_option linter.unusedSimpArgs false

/-- What an arena holds. -/
structure AS where
  used : List Ob
  ahead : List Ob
  moved : Int → Option Int
  semi : Nat
/-- Block p of w is an arena that holds s; S: the blocks that it lies in. -/
def IsArena (w : World) (p : Nat) (S : Nat → Prop) (s : AS) : Prop :=
  ∃ vb vl m vb' vl' mo' mv, w.heap[p]? = some (.cells #[vb, vl, .map (some m), vb', vl', .map mo', .map (some mv), .int .i64 s.semi] 92 (0, 0)) ∧
    HalfOf w vb (some m) s.used ∧ w.ownsRow 0 2 1 vl s.used.length ((addrs 0 s.used).map (Value.int .i64)) ∧ HalfOf w vb' mo' s.ahead ∧ IMap w mv s.moved ∧
    (∀ k, vb.ownBlock = some k → vb'.ownBlock ≠ some k) ∧ m ≠ mv ∧ some m ≠ mo' ∧ some mv ≠ mo' ∧ tot s.used ≤ s.semi ∧ 256 ≤ s.semi ∧ s.semi ≤ 1048576 ∧
    ∀ k, S k ↔ (k = p ∨ vb.ownBlock = some k ∨ vl.ownBlock = some k ∨ k = m ∨ vb'.ownBlock = some k ∨ mo' = some k ∨ k = mv)
theorem HalfOf.keep {T : Nat → Prop} {w w' : World} {vb : Value} {mo : Option Nat} {l : List Ob} (h : HalfOf w vb mo l) (hf : Fr T w w') (hb : ∀ k, vb.ownBlock = some k → ¬ T k) (hm : ∀ k, mo = some k → ¬ T k) : HalfOf w' vb mo l := by
  obtain ⟨f, hf1, hf2⟩ := h.begins
  exact ⟨hf.row h.bytes hb, ⟨f, hf.omap hf1 hm, hf2⟩, h.ok, h.small⟩
theorem IsArena.keep {T : Nat → Prop} {w w' : World} {p : Nat} {S : Nat → Prop} {s : AS} (h : IsArena w p S s) (hf : Fr T w w') (hd : ∀ k, S k → ¬ T k) : IsArena w' p S s := by
  obtain ⟨vb, vl, m, vb', vl', mo', mv, hp, h1, h2, h3, h4, h5, h6, h7, h8, h9, h10, h11, hS⟩ := h
  exact ⟨vb, vl, m, vb', vl', mo', mv, hf.heap hp (hd _ ((hS _).2 (.inl rfl))), h1.keep hf (fun k hk => hd k ((hS k).2 (.inr (.inl hk)))) (fun k hk => hd k ((hS k).2 (.inr (.inr (.inr (.inl (by simpa using hk.symm))))))),
    hf.row h2 (fun k hk => hd k ((hS k).2 (.inr (.inr (.inl hk))))), h3.keep hf (fun k hk => hd k ((hS k).2 (.inr (.inr (.inr (.inr (.inl hk))))))) (fun k hk => hd k ((hS k).2 (.inr (.inr (.inr (.inr (.inr (.inl hk)))))))),
    hf.imap h4 (hd _ ((hS _).2 (.inr (.inr (.inr (.inr (.inr (.inr rfl)))))))), h5, h6, h7, h8, h9, h10, h11, hS⟩
theorem row_lt {w : World} {base e size n : Nat} {v : Value} {xs : List Value} (h : w.ownsRow base e size v n xs) {k : Nat} (hk : v.ownBlock = some k) : k < w.heap.size := (h.lt k hk).2
theorem IsArena.lt {w : World} {p : Nat} {S : Nat → Prop} {s : AS} (h : IsArena w p S s) {k : Nat} (hk : S k) : k < w.heap.size := by
  obtain ⟨vb, vl, m, vb', vl', mo', mv, hp, h1, h2, h3, h4, h5, h6, h7, h8, h9, h10, h11, hS⟩ := h
  rcases (hS k).1 hk with rfl | hk | hk | rfl | hk | hk | rfl
  · exact (Array.getElem?_eq_some_iff.1 hp).1
  · exact row_lt h1.bytes hk
  · exact row_lt h2 hk
  · obtain ⟨f, hf, _⟩ := h1.begins; exact IMap.lt hf
  · exact row_lt h3.bytes hk
  · subst hk; obtain ⟨f, hf, _⟩ := h3.begins; exact IMap.lt hf
  · exact h4.lt
theorem IsArena.self {w : World} {p : Nat} {S : Nat → Prop} {s : AS} (h : IsArena w p S s) : S p := by
  obtain ⟨vb, vl, m, vb', vl', mo', mv, hp, h1, h2, h3, h4, h5, h6, h7, h8, h9, h10, h11, hS⟩ := h
  exact (hS p).2 (.inl rfl)
/-- Is there room for so many slots? -/
def roomB (s : AS) (n : Int) : Bool := decide (0 ≤ n ∧ n ≤ 65536 ∧ 16 + 8 * n ≤ s.semi - tot s.used)
theorem roomB_true {s : AS} {n : Int} (h : 0 ≤ n ∧ n ≤ 65536 ∧ 16 + 8 * n ≤ s.semi - tot s.used) : roomB s n = true := decide_eq_true h
theorem roomB_false {s : AS} {n : Int} (h : ¬ (0 ≤ n ∧ n ≤ 65536 ∧ 16 + 8 * n ≤ s.semi - tot s.used)) : roomB s n = false := decide_eq_false h
set_option maxRecDepth 100000 in
set_option maxHeartbeats 400000 in
theorem room_any (p : Nat) (n : Int) (S : Nat → Prop) (s : AS) (w : World) (h : IsArena w p S s) :
    Calls Try.prog 22 #[.pointer (some ⟨p, 0, none⟩), .int .i64 n] w fun e w' => e = .returned (.bool (roomB s n)) ∧ ∃ k, w' = w.drewN k := by
  obtain ⟨vb, vl, m, vb', vl', mo', mv, hp, h1, h2, h3, h4, h5, h6, h7, h8, h9, h10, h11, hS⟩ := h
  obtain ⟨a, c, rfl⟩ := row_form h1.bytes
  have hlen := encs_length s.used
  have c0 := blk_cell hp 0
  have c7 := blk_cell hp 7
  simp only [List.getElem?_toArray, List.getElem?_cons_succ, List.getElem?_cons_zero, hlen] at c0 c7
  clear hp h1 h2 h3 h4 h5 h6 h7 h8 hS hlen
  have hs1 : tot s.used ≤ 1048576 := by omega
  have hs2 := h10
  by_cases n0 : 0 ≤ n
  · by_cases n1 : n ≤ 65536
    · by_cases n2 : 16 + 8 * n ≤ (s.semi : Int) - tot s.used
      · have Hr := Lib.hid (roomB_true ⟨n0, n1, n2⟩)
        go_enter Try.func22, Try.ntmps22
        go_wp2
        go_quiet (fail)
        go_wp2
        go_ret
        exact ⟨by rw [Hr.out]; rfl, _, rfl⟩
      · have Hr := Lib.hid (roomB_false (s := s) (n := n) (fun h => n2 h.2.2))
        have hb : decide (16 + 8 * n ≤ (s.semi : Int) - tot s.used) = false := by simpa using n2
        go_enter Try.func22, Try.ntmps22
        go_wp2
        go_quiet (fail)
        go_wp2
        go_ret
        exact ⟨by rw [Hr.out]; rfl, _, rfl⟩
    · have Hr := Lib.hid (roomB_false (s := s) (n := n) (fun h => n1 h.2.1))
      have hb : decide (n ≤ 65536) = false := by simpa using n1
      go_enter Try.func22, Try.ntmps22
      go_wp2
      go_quiet (fail)
      go_wp2
      go_ret
      exact ⟨by rw [Hr.out]; rfl, _, rfl⟩
  · have Hr := Lib.hid (roomB_false (s := s) (n := n) (fun h => n0 h.1))
    have hb : decide (0 ≤ n) = false := by simpa using n0
    go_enter Try.func22, Try.ntmps22
    go_wp2
    go_quiet (fail)
    go_wp2
    go_ret
    exact ⟨by rw [Hr.out]; rfl, _, rfl⟩
/-- The used half of an arena, and its cells. -/
theorem IsArena.used {w : World} {p : Nat} {S : Nat → Prop} {s : AS} (h : IsArena w p S s) : ∃ vb m, w.cell? ⟨p, 0, none⟩ = some vb ∧ w.cell? ⟨p, 0 + 2, none⟩ = some (.map (some m)) ∧ HalfOf w vb (some m) s.used := by
  obtain ⟨vb, vl, m, vb', vl', mo', mv, hp, h1, _⟩ := h
  exact ⟨vb, m, blk_cell hp 0, blk_cell hp 2, h1⟩
def errI (o : Option Ob) : Int := match o with | none => 57 | some _ => 0
def kindOf (o : Option Ob) : Int := match o with | none => 0 | some x => x.kind
def slotsOf (o : Option Ob) : Int := match o with | none => 0 | some x => x.vs.length
set_option maxHeartbeats 400000 in
theorem Kind_any (p : Nat) (a : Int) (S : Nat → Prop) (s : AS) (w : World) (h : IsArena w p S s) :
    Calls Try.prog 34 #[.pointer (some ⟨p, 0, none⟩), .int .i64 a] w fun e w' => e = .returned (.tuple #[.int .i64 (kindOf (findOb 0 s.used a)), .int .i64 (errI (findOb 0 s.used a))]) ∧ w' = w := by
  obtain ⟨vb, m, c0, c2, hh⟩ := h.used
  have H := Lib.hid (is_any p 0 a vb (some m) s.used w c2 hh)
  cases hx : findOb 0 s.used a with
  | none =>
    rw [hx] at H
    clear h c2 hh hx c0
    go_enter Try.func34, Try.ntmps34
    go_wp2_with fail
    refine H.out.mono ?_
    rintro e w' ⟨rfl, rfl⟩
    go_wp2
    go_ret2
    exact ⟨rfl, rfl⟩
  | some x =>
    rw [hx] at H
    have H2 := Lib.hid (kind_any p 0 a vb (some m) s.used x w c0 hh hx)
    clear h c2 hh hx c0
    go_enter Try.func34, Try.ntmps34
    go_wp2_with fail
    refine H.out.mono ?_
    rintro e w' ⟨rfl, rfl⟩
    go_wp2_with fail
    refine H2.out.mono ?_
    rintro e w' ⟨rfl, rfl⟩
    go_wp2
    go_ret2
    exact ⟨rfl, rfl⟩
set_option maxHeartbeats 400000 in
theorem Slots_any (p : Nat) (a : Int) (S : Nat → Prop) (s : AS) (w : World) (h : IsArena w p S s) :
    Calls Try.prog 30 #[.pointer (some ⟨p, 0, none⟩), .int .i64 a] w fun e w' => e = .returned (.tuple #[.int .i64 (slotsOf (findOb 0 s.used a)), .int .i64 (errI (findOb 0 s.used a))]) ∧ w' = w := by
  obtain ⟨vb, m, c0, c2, hh⟩ := h.used
  have H := Lib.hid (is_any p 0 a vb (some m) s.used w c2 hh)
  cases hx : findOb 0 s.used a with
  | none =>
    rw [hx] at H
    clear h c2 hh hx c0
    go_enter Try.func30, Try.ntmps30
    go_wp2_with fail
    refine H.out.mono ?_
    rintro e w' ⟨rfl, rfl⟩
    go_wp2
    go_ret2
    exact ⟨rfl, rfl⟩
  | some x =>
    rw [hx] at H
    have H2 := Lib.hid (slots_any p 0 a vb (some m) s.used x w c0 hh hx)
    clear h c2 hh hx c0
    go_enter Try.func30, Try.ntmps30
    go_wp2_with fail
    refine H.out.mono ?_
    rintro e w' ⟨rfl, rfl⟩
    go_wp2_with fail
    refine H2.out.mono ?_
    rintro e w' ⟨rfl, rfl⟩
    go_wp2
    go_ret2
    exact ⟨rfl, rfl⟩
/-- Which error a slot answers. -/
def slotE (o : Option Ob) (n : Int) : Int := match o with | none => 57 | some x => if n < 0 ∨ n ≥ x.vs.length then 1 else 0
set_option maxHeartbeats 400000 in
theorem slot_any (p : Nat) (a n : Int) (S : Nat → Prop) (s : AS) (w : World) (h : IsArena w p S s) :
    Calls Try.prog 63 #[.pointer (some ⟨p, 0, none⟩), .int .i64 a, .int .i64 n] w fun e w' => e = .returned (.int .i64 (slotE (findOb 0 s.used a) n)) ∧ w' = w := by
  obtain ⟨vb, m, c0, c2, hh⟩ := h.used
  have H := Lib.hid (is_any p 0 a vb (some m) s.used w c2 hh)
  cases hx : findOb 0 s.used a with
  | none =>
    rw [hx] at H
    clear h c2 hh hx c0
    go_enter Try.func63, Try.ntmps63
    go_wp2_with fail
    refine H.out.mono ?_
    rintro e w' ⟨rfl, rfl⟩
    go_wp2
    go_ret
    exact ⟨rfl, rfl⟩
  | some x =>
    rw [hx] at H
    have H2 := Lib.hid (slots_any p 0 a vb (some m) s.used x w c0 hh hx)
    clear h c2 hh hx c0
    by_cases n0 : n < 0
    · have He := Lib.hid (show slotE (some x) n = 1 from if_pos (.inl n0))
      go_enter Try.func63, Try.ntmps63
      go_wp2_with fail
      refine H.out.mono ?_
      rintro e w' ⟨rfl, rfl⟩
      go_wp2_with fail
      go_ret
      exact ⟨by rw [He.out]; rfl, rfl⟩
    · by_cases n1 : n ≥ x.vs.length
      · have He := Lib.hid (show slotE (some x) n = 1 from if_pos (.inr n1))
        go_enter Try.func63, Try.ntmps63
        go_wp2_with fail
        refine H.out.mono ?_
        rintro e w' ⟨rfl, rfl⟩
        go_wp2_with fail
        refine H2.out.mono ?_
        rintro e w' ⟨rfl, rfl⟩
        go_wp2
        go_ret
        exact ⟨by rw [He.out]; rfl, rfl⟩
      · have He := Lib.hid (show slotE (some x) n = 0 from if_neg (fun h => h.elim n0 n1))
        go_enter Try.func63, Try.ntmps63
        go_wp2_with fail
        refine H.out.mono ?_
        rintro e w' ⟨rfl, rfl⟩
        go_wp2_with fail
        refine H2.out.mono ?_
        rintro e w' ⟨rfl, rfl⟩
        go_wp2
        go_ret
        exact ⟨by rw [He.out]; rfl, rfl⟩
set_option maxHeartbeats 400000 in
theorem Used_any (p : Nat) (S : Nat → Prop) (s : AS) (w : World) (h : IsArena w p S s) :
    Calls Try.prog 24 #[.pointer (some ⟨p, 0, none⟩)] w fun e w' => e = .returned (.int .i64 (tot s.used)) ∧ w' = w := by
  obtain ⟨vb, m, c0, c2, hh⟩ := h.used
  obtain ⟨a, c, rfl⟩ := row_form hh.bytes
  rw [encs_length] at c0
  clear h c2 hh
  go_enter Try.func24, Try.ntmps24
  go_wp2
  go_ret
  exact ⟨rfl, rfl⟩
end Go.Proofs.Ytniifefmjdjebaa
