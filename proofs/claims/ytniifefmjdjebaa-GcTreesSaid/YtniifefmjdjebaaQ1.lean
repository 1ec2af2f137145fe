/- Walk: GcChains. -/
import Derived.Test.YtniifefmjdjebaaQ0
import Derived.Test.YtniifefmjdjebaaP9
namespace Go.Proofs.Ytniifefmjdjebaa
open Go.RowKit
set_option linter.unusedVariables false
set_option linter.unusedSimpArgs false
/-- The chain when the first k are made; when the first k hold the next. -/
def chainMk (k : Nat) : List Ob := (List.range k).map fun (_ : Nat) => ⟨-2, [0]⟩
def chainPt (n k : Nat) : List Ob := (List.range n).map fun (j : Nat) => ⟨-2, [if j < k then 24 * ((j : Int) + 1) + 8 else 0]⟩
def caddrs (k : Nat) : List Int := (List.range k).map fun (j : Nat) => 24 * (j : Int) + 8
theorem caddrs_succ (k : Nat) : caddrs (k + 1) = caddrs k ++ [24 * (k : Int) + 8] := by unfold caddrs; rw [List.range_succ, List.map_append]; rfl
theorem caddrs_length (k : Nat) : (caddrs k).length = k := by simp [caddrs]
theorem caddrs_at {n j : Nat} (h : j < n) : (caddrs n)[j]?.getD 0 = 24 * (j : Int) + 8 := by
  unfold caddrs; rw [List.getElem?_map, List.getElem?_range h]; rfl
theorem chainMk_succ (k : Nat) : chainMk (k + 1) = chainMk k ++ [⟨-2, [0]⟩] := by unfold chainMk; rw [List.range_succ, List.map_append]; rfl
theorem chainMk_tot (k : Nat) : tot (chainMk k) = 24 * k := by
  rw [unif_tot 24]
  · simp [chainMk]
  · intro x hx
    unfold chainMk at hx
    obtain ⟨_, _, rfl⟩ := List.mem_map.1 hx; rfl
theorem chainPt_zero (n : Nat) : chainPt n 0 = chainMk n := by
  unfold chainPt chainMk
  apply List.map_congr_left
  intro j _
  rw [if_neg (by omega)]
theorem chainPt_size (n k : Nat) : ∀ x ∈ chainPt n k, x.size = 24 := fun x hx => by
  unfold chainPt at hx
  obtain ⟨_, _, rfl⟩ := List.mem_map.1 hx; rfl
theorem chainPt_put (n k : Nat) (hk : k + 1 < n) : (⟨chainPt n k, [], fun _ => none, 16384⟩ : AS).put (24 * (k : Int) + 8) 0 (24 * ((k : Int) + 1) + 8) = ⟨chainPt n (k + 1), [], fun _ => none, 16384⟩ := by
  have hl : (chainPt n k).length = n := by simp [chainPt]
  have hat : (chainPt n k)[k]? = some ⟨-2, [0]⟩ := by
    unfold chainPt; rw [List.getElem?_map, List.getElem?_range (by omega)]
    simp
  have h := put_at ⟨chainPt n k, [], fun _ => none, 16384⟩ k ⟨-2, [0]⟩ 0 (24 * ((k : Int) + 1) + 8) hat (by omega) (by simp)
  have ha : adr (chainPt n k) k = 24 * (k : Int) + 8 := unif_adr 24 _ (chainPt_size n k) (by omega)
  rw [ha] at h
  rw [h]
  congr 1
  apply List.ext_getElem?
  intro j
  by_cases hjk : k = j
  · subst hjk
    rw [List.getElem?_set_self (by rw [hl]; omega)]
    unfold chainPt
    rw [List.getElem?_map, List.getElem?_range (by omega)]
    simp
  · rw [List.getElem?_set_ne hjk]
    unfold chainPt
    rw [List.getElem?_map, List.getElem?_map]
    by_cases hjn : j < n
    · rw [List.getElem?_range hjn]
      simp only [Option.map_some]
      by_cases h2 : j < k
      · rw [if_pos h2, if_pos (by omega)]
      · rw [if_neg h2, if_neg (by omega)]
    · rw [List.getElem?_eq_none (by simp; omega)]; rfl
theorem chainPt_open (n : Nat) : chainPt n (n - 1) = chain n false := by
  unfold chainPt chain cob cnext
  apply List.map_congr_left
  intro j hj
  have := List.mem_range.1 hj
  by_cases h : j < n - 1
  · rw [if_pos h, if_pos (by omega)]
  · rw [if_neg h, if_neg (by omega)]; rfl
theorem chainPt_ring (n : Nat) (hn : 0 < n) : (⟨chainPt n (n - 1), [], fun _ => none, 16384⟩ : AS).put (24 * ((n - 1 : Nat) : Int) + 8) 0 8 = ⟨chain n true, [], fun _ => none, 16384⟩ := by
  have hl : (chainPt n (n - 1)).length = n := by simp [chainPt]
  have hat : (chainPt n (n - 1))[n - 1]? = some ⟨-2, [0]⟩ := by
    unfold chainPt; rw [List.getElem?_map, List.getElem?_range (by omega)]
    simp
  have h := put_at ⟨chainPt n (n - 1), [], fun _ => none, 16384⟩ (n - 1) ⟨-2, [0]⟩ 0 8 hat (by omega) (by simp)
  have ha : adr (chainPt n (n - 1)) (n - 1) = 24 * ((n - 1 : Nat) : Int) + 8 := unif_adr 24 _ (chainPt_size n (n - 1)) (by omega)
  rw [ha] at h
  rw [h]
  congr 1
  apply List.ext_getElem?
  intro j
  by_cases hjk : n - 1 = j
  · subst hjk
    rw [List.getElem?_set_self (by rw [hl]; omega), chain_at (by omega)]
    unfold cob cnext
    rw [if_neg (by omega)]; rfl
  · rw [List.getElem?_set_ne hjk]
    unfold chainPt chain cob cnext
    rw [List.getElem?_map, List.getElem?_map]
    by_cases hjn : j < n
    · rw [List.getElem?_range hjn]
      simp only [Option.map_some]
      rw [if_pos (by omega : j < n - 1), if_pos (by omega : j + 1 < n)]
    · rw [List.getElem?_eq_none (by simp; omega)]; rfl
theorem all_any (w : World) : Calls Try.prog 48 #[] w fun e w' => e = .returned (.slice none 0 0) ∧ w' = w := by
  go_enter Try.func48, Try.ntmps48
  go_wp2
  go_ret
  exact ⟨rfl, rfl⟩
theorem TabIs.none (w : World) : TabIs w (.slice none 0 0) [] (fun _ => False) [] :=
  ⟨World.ownsRow_nil _ _ _ _, fun i r xs hr => by simp at hr, by simp [Value.ownBlock], fun r hr => by simp at hr, by simp⟩
end Go.Proofs.Ytniifefmjdjebaa
