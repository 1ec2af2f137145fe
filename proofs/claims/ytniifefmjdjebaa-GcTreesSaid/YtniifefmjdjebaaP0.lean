/- What roots lead to, in plain words: it holds them, is closed, and is the least such. No program in sight. -/
import Derived.Test.YtniifefmjdjebaaKJ
namespace Go.Proofs.Ytniifefmjdjebaa
open Go.RowKit
set_option linter.unusedVariables false
set_option linter.unusedSimpArgs false
theorem mem_refsG {T : List (List Int)} {x : Ob} {n : Int} : n ∈ refsG T x ↔ n ∈ refsT T x.kind x.vs.length ∧ inB x.vs.length n = true := by
  unfold refsG; rw [addAll_mem]; simp
theorem mem_goodG {T : List (List Int)} {x : Ob} {n : Int} : n ∈ goodG T x ↔ n ∈ refsT T x.kind x.vs.length ∧ inB x.vs.length n = true := by
  unfold goodG; rw [List.mem_filter]
theorem stepB_prefix (s : AS) (T : List (List Int)) (out : List Int) (i : Nat) : out <+: stepB s T out i := by
  unfold stepB
  split
  · exact List.prefix_refl _
  · split
    · exact List.prefix_refl _
    · exact addAll_prefix _ _ _
theorem reachK_prefix (s : AS) (T : List (List Int)) (roots : List Int) {i : Nat} : ∀ {j : Nat}, i ≤ j → reachK s T roots i <+: reachK s T roots j
  | 0, h => by obtain rfl : i = 0 := by omega
               exact List.prefix_refl _
  | j + 1, h => by
    rcases Nat.lt_or_ge i (j + 1) with h1 | h1
    · exact (reachK_prefix s T roots (by omega : i ≤ j)).trans (stepB_prefix s T _ j)
    · obtain rfl : i = j + 1 := by omega
      exact List.prefix_refl _
theorem reach_roots {s : AS} {T : List (List Int)} {roots : List Int} {a : Int} (ha : a ∈ roots) (h : isOb s a = true) : a ∈ reach s T roots :=
  (reachK_prefix s T roots (Nat.zero_le s.used.length)).subset (addAll_mem.2 (.inr ⟨ha, h⟩))
/-- An object that is reached at place i is looked into in the i-th round. -/
theorem reach_at {s : AS} {T : List (List Int)} {roots : List Int} {i : Nat} {a : Int} (h : (reach s T roots)[i]? = some a) : i < s.used.length ∧ (reachK s T roots i)[i]? = some a := by
  obtain ⟨hi, e⟩ := List.getElem?_eq_some_iff.1 h
  have hl := reachK_len s T roots s.used.length
  have hi2 : i < (reach s T roots).length := hi
  have hin : i < s.used.length := by unfold reach at hi2; omega
  refine ⟨hin, ?_⟩
  have hlt : i < (reachK s T roots i).length := by
    rcases Nat.lt_or_ge i (reachK s T roots i).length with h1 | h1
    · exact h1
    · have := reachK_end s T roots i h1
      rw [this] at h1; omega
  obtain ⟨t, ht⟩ := reachK_prefix s T roots (i := i) (j := s.used.length) (by omega)
  unfold reach at h
  rw [← ht, List.getElem?_append_left hlt] at h
  exact h
theorem reach_closed {s : AS} {T : List (List Int)} {roots : List Int} {a n : Int} {x : Ob} (ha : a ∈ reach s T roots) (hx : findOb 0 s.used a = some x) (hn : n ∈ refsG T x) (hv : isOb s (getV (some x) n) = true) : getV (some x) n ∈ reach s T roots := by
  obtain ⟨i, hi, e⟩ := List.mem_iff_getElem.1 ha
  obtain ⟨h1, h2⟩ := reach_at (List.getElem?_eq_some_iff.2 ⟨hi, e⟩)
  refine (reachK_prefix s T roots (i := i + 1) (j := s.used.length) (by omega)).subset ?_
  show _ ∈ stepB s T (reachK s T roots i) i
  unfold stepB
  rw [h2]
  simp only [hx]
  exact addAll_mem.2 (.inr ⟨List.mem_map.2 ⟨n, hn, rfl⟩, hv⟩)
theorem reach_min {s : AS} {T : List (List Int)} {roots : List Int} (C : Int → Prop) (h0 : ∀ a ∈ roots, isOb s a = true → C a)
    (h1 : ∀ a x n, C a → findOb 0 s.used a = some x → n ∈ refsG T x → isOb s (getV (some x) n) = true → C (getV (some x) n)) : ∀ a ∈ reach s T roots, C a := by
  have key : ∀ i, ∀ a ∈ reachK s T roots i, C a := by
    intro i
    induction i with
    | zero =>
      intro a ha
      rcases addAll_mem.1 ha with h | h
      · cases h
      · exact h0 a h.1 h.2
    | succ i ih =>
      intro a ha
      have ha2 : a ∈ stepB s T (reachK s T roots i) i := ha
      unfold stepB at ha2
      split at ha2
      · exact ih a ha2
      · rename_i b hb
        split at ha2
        · exact ih a ha2
        · rename_i x hx
          rcases addAll_mem.1 ha2 with h | h
          · exact ih a h
          · obtain ⟨n, hn, rfl⟩ := List.mem_map.1 h.1
            exact h1 b x n (ih b (List.mem_of_getElem? hb)) hx hn h.2
  exact key _
theorem reach_mono {s : AS} {T : List (List Int)} {r r' : List Int} (h : ∀ a ∈ r, a ∈ r') : ∀ a ∈ reach s T r, a ∈ reach s T r' :=
  reach_min (fun a => a ∈ reach s T r') (fun a ha ho => reach_roots (h a ha) ho) (fun a x n ha hx hn hv => reach_closed ha hx hn hv)
theorem goesTo_row (xs ys : List Int) (a : Int) (hl : ys.length = xs.length) : goesTo xs.length (fun j => xs[j]?.getD 0) (fun j => ys[j]?.getD 0) a = if a ∈ xs then ys[xs.idxOf a]?.getD 0 else -1 := by
  unfold goesTo
  unfold standsIn
  by_cases h : a ∈ xs
  · have h1 := List.idxOf_lt_length_of_mem h
    rw [if_pos h, firstAt_some _ a xs.length 0 (xs.idxOf a) (Nat.zero_le _) (by omega) (by simp only [List.getElem?_eq_getElem h1, Option.getD_some]; exact List.getElem_idxOf h1) (fun j _ hj e => ?_)]
    have hj2 : j < xs.length := by omega
    simp only [List.getElem?_eq_getElem hj2, Option.getD_some] at e
    have := List.not_of_lt_findIdx (p := (· == a)) (xs := xs) (i := j) hj
    simp [e] at this
  · rw [if_neg h, firstAt_none _ a _ 0 (fun j _ hj e => h ?_)]
    have hj2 : j < xs.length := by omega
    simp only [List.getElem?_eq_getElem hj2, Option.getD_some] at e
    exact e ▸ List.getElem_mem hj2
theorem goesTo_self {xs : List Int} {a : Int} (h : a ∈ xs) : goesTo xs.length (fun j => xs[j]?.getD 0) (fun j => xs[j]?.getD 0) a = a := by
  rw [goesTo_row xs xs a rfl, if_pos h]
  have h1 := List.idxOf_lt_length_of_mem h
  rw [List.getElem?_eq_getElem h1, Option.getD_some]
  exact List.getElem_idxOf h1
theorem goesTo_none {xs : List Int} {a : Int} (h : a ∉ xs) : goesTo xs.length (fun j => xs[j]?.getD 0) (fun j => xs[j]?.getD 0) a = -1 := by
  rw [goesTo_row xs xs a rfl, if_neg h]
theorem goesTo_front {xs : List Int} (hn : xs.Nodup) {i : Nat} {a : Int} (h : xs[i]? = some a) : goesTo i (fun j => xs[j]?.getD 0) (fun j => xs[j]?.getD 0) a = -1 := by
  obtain ⟨hi, e⟩ := List.getElem?_eq_some_iff.1 h
  unfold goesTo standsIn
  rw [firstAt_none _ a _ 0 (fun j _ hj e2 => ?_)]
  have hj2 : j < xs.length := by omega
  simp only [List.getElem?_eq_getElem hj2, Option.getD_some] at e2
  have h1 := hn.idxOf_getElem i hi
  have h2 := hn.idxOf_getElem j hj2
  rw [e] at h1
  rw [e2] at h2
  omega
end Go.Proofs.Ytniifefmjdjebaa
