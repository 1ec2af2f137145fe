/- Objects kept through collections, in plain words; what is put into an object just made. No program in sight. -/
import Derived.Test.YtniifefmjdjebaaP6
namespace Go.Proofs.Ytniifefmjdjebaa
open Go.RowKit
set_option linter.unusedVariables false
set_option linter.unusedSimpArgs false
/-- A slot of the object that was made last. -/
theorem put_last (U : List Ob) (k : Int) (vs : List Int) (ah : List Ob) (mv : Int → Option Int) (se : Nat) (n v : Int) (h0 : 0 ≤ n) (h1 : n < vs.length) :
    (⟨U ++ [⟨k, vs⟩], ah, mv, se⟩ : AS).put (tot U + 8) n v = ⟨U ++ [⟨k, vs.set n.toNat v⟩], ah, mv, se⟩ := by
  have h := put_at ⟨U ++ [⟨k, vs⟩], ah, mv, se⟩ U.length ⟨k, vs⟩ n v (by simp) h0 h1
  have ha : adr (U ++ [⟨k, vs⟩]) U.length = tot U + 8 := by unfold adr; rw [List.take_left]
  rw [ha] at h
  rw [h]
  simp
theorem make_room (s : AS) (k n : Int) (h0 : 0 ≤ n) (h1 : n ≤ 65536) (hr : 16 + 8 * n ≤ s.semi - tot s.used) : s.makeE n = 0 ∧ s.makeA n = tot s.used + 8 ∧ s.make k n = { s with used := s.used ++ [⟨k, List.replicate n.toNat 0⟩] } := by
  have he : s.makeE n = 0 := by unfold AS.makeE; rw [if_neg (by omega), if_pos (roomB_true ⟨h0, h1, hr⟩)]
  refine ⟨he, ?_, ?_⟩
  · unfold AS.makeA; rw [if_pos he]
  · unfold AS.make; rw [if_pos he]
/-- The first n of the law's objects. -/
def rob (v : Int) (j : Nat) : Ob := ⟨0, [if j = 0 then 0 else 32 * ((j : Int) - 1) + 8, wrap64 (v + j)]⟩
def rbase (v : Int) (n : Nat) : List Ob := (List.range n).map (rob v)
def rroots (n : Nat) : List Int := (List.range n).map fun (j : Nat) => 32 * (j : Int) + 8
theorem rbase_succ (v : Int) (n : Nat) : rbase v (n + 1) = rbase v n ++ [rob v n] := by unfold rbase; rw [List.range_succ, List.map_append]; rfl
theorem rroots_succ (n : Nat) : rroots (n + 1) = rroots n ++ [32 * (n : Int) + 8] := by unfold rroots; rw [List.range_succ, List.map_append]; rfl
theorem rroots_length (n : Nat) : (rroots n).length = n := by simp [rroots]
theorem rbase_length (v : Int) (n : Nat) : (rbase v n).length = n := by simp [rbase]
theorem rroots_at {n j : Nat} (h : j < n) : (rroots n)[j]?.getD 0 = 32 * (j : Int) + 8 := by
  unfold rroots; rw [List.getElem?_map, List.getElem?_range h]; rfl
theorem rbase_tot (v : Int) : ∀ n, tot (rbase v n) = 32 * n
  | 0 => rfl
  | n + 1 => by rw [rbase_succ, tot_append, rbase_tot v n, tot_cons, tot_nil]; simp [rob, Ob.size]; omega
theorem rbase_take (v : Int) {j n : Nat} (h : j ≤ n) : (rbase v n).take j = rbase v j := by
  unfold rbase; rw [← List.map_take, List.take_range, Nat.min_eq_left h]
theorem rbase_adr (v : Int) (J : List Ob) {j n : Nat} (h : j ≤ n) : adr (rbase v n ++ J) j = 32 * (j : Int) + 8 := by
  unfold adr
  rw [List.take_append_of_le_length (by rw [rbase_length]; exact h), rbase_take v h, rbase_tot]; omega
theorem rbase_find (v : Int) (J : List Ob) {j n : Nat} (h : j < n) : findOb 0 (rbase v n ++ J) (32 * (j : Int) + 8) = some (rob v j) := by
  have hl : j < (rbase v n ++ J).length := by rw [List.length_append, rbase_length]; omega
  have h1 := find_adr (rbase v n ++ J) j hl
  rw [rbase_adr v J (by omega)] at h1
  rw [h1]
  have h2 : (rbase v n ++ J)[j]? = some (rob v j) := by
    rw [List.getElem?_append_left (by rw [rbase_length]; exact h)]
    unfold rbase; rw [List.getElem?_map, List.getElem?_range h]; rfl
  rw [List.getElem?_eq_getElem hl] at h2
  exact h2
theorem rround_refs (v : Int) (j : Nat) : refsG [[0]] (rob v j) = [0] := by
  unfold refsG refsT rob
  simp [addAll, addN, inB]
section
variable (s : AS) (v : Int) (n : Nat) (J : List Ob) (hs : s.used = rbase v n ++ J)
include hs
theorem rround_ob {j : Nat} (h : j < n) : isOb s (32 * (j : Int) + 8) = true ∧ obAt s (32 * (j : Int) + 8) = rob v j := by
  have h1 := rbase_find v J h
  unfold isOb obAt
  rw [hs, h1]
  exact ⟨rfl, rfl⟩
theorem rround_roots : addAll (isOb s) [] (rroots n) = rroots n := by
  have key : ∀ k, k ≤ n → addAll (isOb s) [] (rroots k) = rroots k := by
    intro k
    induction k with
    | zero => intro _; rfl
    | succ k ih =>
      intro hk
      rw [rroots_succ, addAll_append, ih (by omega)]
      show addN (isOb s) (rroots k) (32 * (k : Int) + 8) = _
      refine addN_new (rround_ob s v n J hs (by omega)).1 (fun h => ?_)
      unfold rroots at h
      obtain ⟨j, hj, e⟩ := List.mem_map.1 h
      have := List.mem_range.1 hj
      omega
  exact key n (Nat.le_refl _)
theorem rround_reach : reach s [[0]] (rroots n) = rroots n := by
  have key : ∀ i, reachK s [[0]] (rroots n) i = rroots n := by
    intro i
    induction i with
    | zero => exact rround_roots s v n J hs
    | succ i ih =>
      show stepB s [[0]] (reachK s [[0]] (rroots n) i) i = _
      rw [ih]
      unfold stepB
      cases hb : (rroots n)[i]? with
      | none => rfl
      | some a =>
        have hi : i < n := by
          have := (List.getElem?_eq_some_iff.1 hb).1
          rw [rroots_length] at this; exact this
        have ha : a = 32 * (i : Int) + 8 := by
          have := rroots_at hi
          rw [hb] at this; exact this
        subst ha
        have hf : findOb 0 s.used (32 * (i : Int) + 8) = some (rob v i) := by rw [hs]; exact rbase_find v J hi
        simp only [hf]
        rw [rround_refs v i]
        show addN (isOb s) (rroots n) (getV (some (rob v i)) 0) = _
        apply addN_skip
        by_cases h0 : i = 0
        · right
          subst h0
          show isOb s 0 = false
          exact isOb_zero s
        · left
          have hg : getV (some (rob v i)) 0 = 32 * ((i : Int) - 1) + 8 := by
            unfold getV rob; simp [h0]
          rw [hg]
          unfold rroots
          refine List.mem_map.2 ⟨i - 1, List.mem_range.2 (by omega), by omega⟩
  exact key _
theorem rround_objs : objs s (rroots n) = rbase v n := by
  unfold objs rbase rroots
  rw [List.map_map]
  apply List.map_congr_left
  intro j hj
  exact (rround_ob s v n J hs (List.mem_range.1 hj)).2
theorem rround_went (a : Int) : wentTo s [[0]] (rroots n) a = if a ∈ rroots n then some a else none := by
  rw [wentTo_eq, rround_reach s v n J hs, rround_objs s v n J hs]
  by_cases h : a ∈ rroots n
  · rw [if_pos h, if_pos h]
    have h1 := List.idxOf_lt_length_of_mem h
    have h2 := rroots_at (n := n) (j := (rroots n).idxOf a) (by rw [rroots_length] at h1; exact h1)
    rw [List.getElem?_eq_getElem h1, Option.getD_some, List.getElem_idxOf h1] at h2
    have h3 := rbase_adr v [] (j := (rroots n).idxOf a) (n := n) (by rw [rroots_length] at h1; omega)
    rw [List.append_nil] at h3
    rw [h3, ← h2]
  · rw [if_neg h, if_neg h]
theorem rround_keeps : rootsOk s (rroots n) ∧ (collectS s [[0]] (rroots n)).used = rbase v n ∧ collectR s [[0]] (rroots n) = rroots n := by
  have hok : rootsOk s (rroots n) := fun a ha => by
    unfold rroots at ha
    obtain ⟨j, hj, rfl⟩ := List.mem_map.1 ha
    exact .inr (rround_ob s v n J hs (List.mem_range.1 hj)).1
  have hid : ∀ a, wentTo s [[0]] (rroots n) a = none ∨ wentTo s [[0]] (rroots n) a = some a := fun a => by
    rw [rround_went s v n J hs]; split
    · exact .inr rfl
    · exact .inl rfl
  refine ⟨hok, ?_, ?_⟩
  · rw [collect_used, rround_reach s v n J hs, rround_objs s v n J hs]
    conv => rhs; rw [← List.map_id (rbase v n)]
    apply List.map_congr_left
    intro x _
    unfold fixOb
    rw [fixVs_id hid]; rfl
  · rw [collectR_phi]
    conv => rhs; rw [← List.map_id (rroots n)]
    apply List.map_congr_left
    intro a ha
    unfold phi
    rw [rround_went s v n J hs, if_pos ha]; rfl
end
end Go.Proofs.Ytniifefmjdjebaa
