/- The state of a law: one arena, rows beside it. -/
import Derived.Test.YtniifefmjdjebaaC1
import Derived.Test.YtniifefmjdjebaaD2
namespace Go.Proofs.Ytniifefmjdjebaa
open Go.RowKit
set_option linter.unusedVariables false
set_option linter.unusedSimpArgs false

/-- A row that is kept beside an arena: its value, its elements' type, its cells. -/
abbrev KRow := Value × TypeId × List Value
/-- One arena at p that holds s, in blocks S that are newer than w0; rows beside it; nothing of w0 has turned. -/
structure St (w0 w : World) (p : Nat) (S : Nat → Prop) (s : AS) (R : List KRow) : Prop where
  arena : IsArena w p S s
  fr : Fr (fun _ => False) w0 w
  new : ∀ k, S k → w0.heap.size ≤ k
  rows : ∀ r ∈ R, w.ownsRow 0 r.2.1 1 r.1 r.2.2.length r.2.2 ∧ ∀ k, r.1.ownBlock = some k → ¬ S k
theorem St.turned {w0 w w' : World} {p : Nat} {S : Nat → Prop} {s s' : AS} {R : List KRow} (h : St w0 w p S s R) (ht : Turned w w' p S s') : ∃ S', St w0 w' p S' s' R := by
  obtain ⟨S', h1, h2, h3⟩ := ht
  refine ⟨S', h1, h.fr.trans h2 (fun _ h => h) (fun i hi hs => by have := h.new i hs; omega), fun k hk => ?_, fun r hr => ?_⟩
  · rcases h3 k hk with h4 | h4
    · exact h.new k h4
    · have := h.fr.size; omega
  · obtain ⟨hr1, hr2⟩ := h.rows r hr
    refine ⟨h2.row hr1 hr2, fun k hk hs => ?_⟩
    rcases h3 k hs with h4 | h4
    · exact hr2 k hk h4
    · have := row_lt hr1 hk; omega
theorem St.drewN {w0 w : World} {p : Nat} {S : Nat → Prop} {s : AS} {R : List KRow} (h : St w0 w p S s R) (n : Nat) : St w0 (w.drewN n) p S s R :=
  ⟨h.arena.drewN n, h.fr.trans (Fr.drewN (fun _ => False) w n) (fun _ h => h) (fun _ _ h => h), h.new, h.rows⟩
theorem St.kept {w0 w w' : World} {p : Nat} {S : Nat → Prop} {s : AS} {R : List KRow} (h : St w0 w p S s R) (hf : Fr (fun _ => False) w w') : St w0 w' p S s R :=
  ⟨h.arena.keep hf (fun _ _ h => h), h.fr.trans hf (fun _ h => h) (fun _ _ h => h), h.new, fun r hr => ⟨hf.row (h.rows r hr).1 (fun _ _ h => h), (h.rows r hr).2⟩⟩
theorem St.row {w0 w w' : World} {p : Nat} {S : Nat → Prop} {s : AS} {R : List KRow} {e : TypeId} {xs : List Value} {v : Value} (h : St w0 w p S s R)
    (h1 : w'.ownsRow 0 e 1 v xs.length xs) (h2 : Fr (fun _ => False) w w') (h3 : ∀ g, v.ownBlock = some g → w.heap.size ≤ g) : St w0 w' p S s ((v, e, xs) :: R) := by
  have hk := h.kept h2
  refine ⟨hk.arena, hk.fr, hk.new, fun r hr => ?_⟩
  rcases List.mem_cons.1 hr with rfl | hr
  · exact ⟨h1, fun k hk hs => by have := h3 k hk; have := h.arena.lt hs; omega⟩
  · exact hk.rows r hr
theorem St.put {w0 w w' : World} {p : Nat} {S : Nat → Prop} {s s' : AS} {R : List KRow} (h : St w0 w p S s R) (h1 : IsArena w' p S s') (h2 : Fr S w w') : St w0 w' p S s' R := by
  refine ⟨h1, h.fr.trans h2 (fun _ h => h) (fun i hi hs => by have := h.new i hs; omega), h.new, fun r hr => ?_⟩
  obtain ⟨hr1, hr2⟩ := h.rows r hr
  exact ⟨h2.row hr1 hr2, hr2⟩
/-- What 'made' leaves. -/
theorem MadeOk.st {w0 w w' : World} {s : AS} {e : Ending} (h : MadeOk w s e w') (h0 : Fr (fun _ => False) w0 w) : ∃ p S, e = .returned (.pointer (some ⟨p, 0, none⟩)) ∧ St w0 w' p S s [] := by
  obtain ⟨p, S, h1, h2, h3, h4⟩ := h
  exact ⟨p, S, h1, h2, h0.trans h3 (fun _ h => h) (fun _ _ h => h), fun k hk => Nat.le_trans h0.size (h4 k hk), fun _ h => by cases h⟩
/-- The addresses as a row. -/
def rowA (v : Value) (s : AS) : KRow := (v, 2, (addrs 0 s.used).map (Value.int .i64))
/-- The bytes as a row. -/
def rowB (v : Value) (s : AS) : KRow := (v, 5, (encs s.used).map (Value.int .u8))
theorem St.rowAt {w0 w : World} {p : Nat} {S : Nat → Prop} {s : AS} {R : List KRow} (h : St w0 w p S s R) {v : Value} {t : AS} (hr : rowA v t ∈ R) : w.ownsRow 0 2 1 v t.used.length ((addrs 0 t.used).map (Value.int .i64)) := by
  have := (h.rows _ hr).1
  simp only [rowA, List.length_map, addrs_length] at this
  exact this
theorem St.rowBt {w0 w : World} {p : Nat} {S : Nat → Prop} {s : AS} {R : List KRow} (h : St w0 w p S s R) {v : Value} {t : AS} (hr : rowB v t ∈ R) : w.ownsRow 0 5 1 v (tot t.used) ((encs t.used).map (Value.int .u8)) := by
  have := (h.rows _ hr).1
  simp only [rowB, List.length_map, encs_length] at this
  exact this
theorem St.small {w0 w : World} {p : Nat} {S : Nat → Prop} {s : AS} {R : List KRow} (h : St w0 w p S s R) : tot s.used ≤ 1048576 ∧ s.used.length ≤ tot s.used := by
  obtain ⟨_, _, _, _, hh⟩ := h.arena.used
  exact ⟨hh.small, len_le_tot _⟩
theorem madeK_ahead (s : AS) (c : Nat → CallD) : ∀ k, (madeK s c k).ahead = s.ahead
  | 0 => rfl
  | k + 1 => by
    show (AS.make _ _ _).ahead = _
    unfold AS.make
    split
    · exact madeK_ahead s c k
    · exact madeK_ahead s c k
theorem madeS_ahead (semi : Int) (c : Nat → CallD) (len : Nat) : (madeS semi c len).ahead = [] := madeK_ahead _ _ _
end Go.Proofs.Ytniifefmjdjebaa
