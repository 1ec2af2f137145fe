/- The state of a law, with rows that are appended to. -/
import Derived.Test.YtniifefmjdjebaaC2
namespace Go.Proofs.Ytniifefmjdjebaa
open Go.RowKit
set_option linter.unusedVariables false
set_option linter.unusedSimpArgs false

/-- Two rows lie in different blocks. -/
def Apart2 (a b : KRow) : Prop := ∀ k, a.1.ownBlock = some k → b.1.ownBlock ≠ some k
structure Sx (w0 w : World) (p : Nat) (S : Nat → Prop) (s : AS) (R : List KRow) : Prop where
  st : St w0 w p S s R
  apart : R.Pairwise Apart2
  newr : ∀ r ∈ R, ∀ k, r.1.ownBlock = some k → w0.heap.size ≤ k
theorem Apart2.symm {a b : KRow} (h : Apart2 a b) : Apart2 b a := fun k hb ha => h k ha hb
theorem Sx.drewN {w0 w : World} {p : Nat} {S : Nat → Prop} {s : AS} {R : List KRow} (h : Sx w0 w p S s R) (n : Nat) : Sx w0 (w.drewN n) p S s R := ⟨h.st.drewN n, h.apart, h.newr⟩
theorem Sx.kept {w0 w w' : World} {p : Nat} {S : Nat → Prop} {s : AS} {R : List KRow} (h : Sx w0 w p S s R) (hf : Fr (fun _ => False) w w') : Sx w0 w' p S s R := ⟨h.st.kept hf, h.apart, h.newr⟩
theorem Sx.put {w0 w w' : World} {p : Nat} {S : Nat → Prop} {s s' : AS} {R : List KRow} (h : Sx w0 w p S s R) (h1 : IsArena w' p S s') (h2 : Fr S w w') : Sx w0 w' p S s' R := ⟨h.st.put h1 h2, h.apart, h.newr⟩
theorem Sx.turned {w0 w w' : World} {p : Nat} {S : Nat → Prop} {s s' : AS} {R : List KRow} (h : Sx w0 w p S s R) (ht : Turned w w' p S s') : ∃ S', Sx w0 w' p S' s' R := by
  obtain ⟨S', h'⟩ := h.st.turned ht
  exact ⟨S', h', h.apart, h.newr⟩
theorem Sx.row {w0 w w' : World} {p : Nat} {S : Nat → Prop} {s : AS} {R : List KRow} {e : TypeId} {xs : List Value} {v : Value} (h : Sx w0 w p S s R)
    (h1 : w'.ownsRow 0 e 1 v xs.length xs) (h2 : Fr (fun _ => False) w w') (h3 : ∀ g, v.ownBlock = some g → w.heap.size ≤ g) : Sx w0 w' p S s ((v, e, xs) :: R) := by
  refine ⟨h.st.row h1 h2 h3, List.pairwise_cons.2 ⟨fun r hr k hk hr2 => ?_, h.apart⟩, fun r hr k hk => ?_⟩
  · have := h3 k hk
    have := row_lt (h.st.rows r hr).1 hr2
    omega
  · rcases List.mem_cons.1 hr with rfl | hr
    · have := h3 k hk; have := h.st.fr.size; omega
    · exact h.newr r hr k hk
theorem Sx.nil {w0 w : World} {p : Nat} {S : Nat → Prop} {s : AS} {R : List KRow} (h : Sx w0 w p S s R) (e : TypeId) : Sx w0 w p S s ((.slice none 0 0, e, []) :: R) :=
  h.row (World.ownsRow_nil _ _ _ _) (Fr.refl _ _) (by simp [Value.ownBlock])
theorem Sx.swap {w0 w : World} {p : Nat} {S : Nat → Prop} {s : AS} {a b : KRow} {R : List KRow} (h : Sx w0 w p S s (a :: b :: R)) : Sx w0 w p S s (b :: a :: R) := by
  have hp : (b :: a :: R).Perm (a :: b :: R) := List.Perm.swap a b R
  refine ⟨⟨h.st.arena, h.st.fr, h.st.new, fun r hr => h.st.rows r (hp.mem_iff.1 hr)⟩, (hp.pairwise_iff (fun h => h.symm)).2 h.apart, fun r hr => h.newr r (hp.mem_iff.1 hr)⟩
theorem Sx.tail {w0 w : World} {p : Nat} {S : Nat → Prop} {s : AS} {a : KRow} {R : List KRow} (h : Sx w0 w p S s (a :: R)) : Sx w0 w p S s R :=
  ⟨⟨h.st.arena, h.st.fr, h.st.new, fun r hr => h.st.rows r (List.mem_cons_of_mem _ hr)⟩, h.apart.tail, fun r hr => h.newr r (List.mem_cons_of_mem _ hr)⟩
theorem Sx.sub {w0 w : World} {p : Nat} {S : Nat → Prop} {s : AS} {R R' : List KRow} (h : Sx w0 w p S s R) (hs : R'.Sublist R) : Sx w0 w p S s R' :=
  ⟨⟨h.st.arena, h.st.fr, h.st.new, fun r hr => h.st.rows r (hs.subset hr)⟩, h.apart.sublist hs, fun r hr => h.newr r (hs.subset hr)⟩
theorem St.sx {w0 w : World} {p : Nat} {S : Nat → Prop} {s : AS} (h : St w0 w p S s []) : Sx w0 w p S s [] := ⟨h, List.Pairwise.nil, fun _ h => by cases h⟩
/-- A row that is appended to, or written in place. -/
theorem Sx.grown {w0 w w' : World} {p : Nat} {S : Nat → Prop} {s : AS} {R : List KRow} {e : TypeId} {xs ys : List Value} {v v' : Value} (h : Sx w0 w p S s ((v, e, xs) :: R))
    (h1 : w'.ownsRow 0 e 1 v' ys.length ys) (h2 : w.grownBy w' v.ownBlock) (h3 : ∀ g, v'.ownBlock = some g → v.ownBlock = some g ∨ w.heap.size ≤ g) : Sx w0 w' p S s ((v', e, ys) :: R) := by
  obtain ⟨hr0, hs0⟩ := h.st.rows _ List.mem_cons_self
  have hap := List.pairwise_cons.1 h.apart
  have hfr : Fr (fun k => v.ownBlock = some k) w w' := Fr.of_grown h2 (fun k hk => hk)
  refine ⟨⟨h.st.arena.keep hfr (fun k hk e => hs0 k e hk), h.st.fr.trans hfr (fun _ h => h) (fun i hi e => ?_), h.st.new, fun r hr => ?_⟩, List.pairwise_cons.2 ⟨fun r hr k hk hr2 => ?_, hap.2⟩, fun r hr k hk => ?_⟩
  · have := h.newr _ List.mem_cons_self i e; omega
  · rcases List.mem_cons.1 hr with rfl | hr
    · refine ⟨h1, fun k hk hS => ?_⟩
      rcases h3 k hk with h4 | h4
      · exact hs0 k h4 hS
      · have := h.st.arena.lt hS; omega
    · obtain ⟨q1, q2⟩ := h.st.rows r (List.mem_cons_of_mem _ hr)
      exact ⟨hfr.row q1 (fun k hk e => hap.1 r hr k e hk), q2⟩
  · rcases h3 k hk with h4 | h4
    · exact hap.1 r hr k h4 hr2
    · have := row_lt (h.st.rows r (List.mem_cons_of_mem _ hr)).1 hr2; omega
  · rcases List.mem_cons.1 hr with rfl | hr
    · rcases h3 k hk with h4 | h4
      · exact h.newr _ List.mem_cons_self k h4
      · have := h.st.fr.size; omega
    · exact h.newr r (List.mem_cons_of_mem _ hr) k hk
/-- The same behind a one-cell block, as an append of one element leaves it. -/
theorem Sx.appended {w0 w w' : World} {p : Nat} {S : Nat → Prop} {s : AS} {R : List KRow} {e : TypeId} {xs : List Value} {x v v' : Value} {o : Obj} (h : Sx w0 w p S s ((v, e, xs) :: R))
    (h1 : w'.ownsRow 0 e 1 v' (xs.length + 1) (xs ++ [x])) (h2 : (w.alloc o).grownBy w' v.ownBlock) (h3 : v'.ownBlock = v.ownBlock ∨ v'.ownBlock = some (w.heap.size + 1)) : Sx w0 w' p S s ((v', e, xs ++ [x]) :: R) := by
  refine h.grown (by simpa using h1) (grown_trans (World.grownBy_alloc w o _) h2) (fun g hg => ?_)
  rcases h3 with h4 | h4
  · exact .inl (h4 ▸ hg)
  · rw [h4] at hg; right; simp at hg; omega
theorem Sx.head {w0 w : World} {p : Nat} {S : Nat → Prop} {s : AS} {R : List KRow} {e : TypeId} {xs : List Value} {v : Value} (h : Sx w0 w p S s ((v, e, xs) :: R)) : w.ownsRow 0 e 1 v xs.length xs := (h.st.rows _ List.mem_cons_self).1
end Go.Proofs.Ytniifefmjdjebaa
