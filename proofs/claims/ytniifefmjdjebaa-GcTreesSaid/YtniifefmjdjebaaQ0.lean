/- A chain of objects, and what a collection from one of them keeps, in plain words. No program in sight. -/
import Derived.Test.YtniifefmjdjebaaP8
namespace Go.Proofs.Ytniifefmjdjebaa
open Go.RowKit
set_option linter.unusedVariables false
set_option linter.unusedSimpArgs false
/-- What the j-th of n holds. -/
def cnext (n : Nat) (ring : Bool) (j : Nat) : Int := if j + 1 < n then 24 * ((j : Int) + 1) + 8 else if ring = true then 8 else 0
def cob (n : Nat) (ring : Bool) (j : Nat) : Ob := ⟨-2, [cnext n ring j]⟩
def chain (n : Nat) (ring : Bool) : List Ob := (List.range n).map (cob n ring)
/-- Which is the i-th from one on. -/
def cidx (n fr i : Nat) : Nat := if fr + i < n then fr + i else fr + i - n
def corder (n fr k : Nat) : List Int := (List.range k).map fun (i : Nat) => 24 * (cidx n fr i : Int) + 8
def ckept (n fr : Nat) (ring : Bool) : Nat := if ring = true then n else n - fr
theorem unif_tot (m : Nat) : ∀ (l : List Ob), (∀ x ∈ l, x.size = m) → tot l = m * l.length
  | [], _ => by simp [tot]
  | x :: l, h => by
    rw [tot_cons, h x List.mem_cons_self, unif_tot m l (fun y hy => h y (List.mem_cons_of_mem _ hy)), List.length_cons, Nat.mul_succ]; omega
theorem unif_adr (m : Nat) (l : List Ob) (h : ∀ x ∈ l, x.size = m) {j : Nat} (hj : j ≤ l.length) : adr l j = m * (j : Int) + 8 := by
  unfold adr
  rw [unif_tot m _ (fun x hx => h x (List.mem_of_mem_take hx)), List.length_take, Nat.min_eq_left hj]
  simp
theorem unif_find (m : Nat) (l : List Ob) (h : ∀ x ∈ l, x.size = m) {j : Nat} {x : Ob} (hx : l[j]? = some x) : findOb 0 l (m * (j : Int) + 8) = some x := by
  obtain ⟨hj, e⟩ := List.getElem?_eq_some_iff.1 hx
  have h1 := find_adr l j hj
  rw [unif_adr m l h (by omega), e] at h1
  exact h1
theorem chain_size (n : Nat) (ring : Bool) : ∀ x ∈ chain n ring, x.size = 24 := fun x hx => by
  unfold chain at hx
  obtain ⟨j, _, rfl⟩ := List.mem_map.1 hx
  rfl
theorem chain_length (n : Nat) (ring : Bool) : (chain n ring).length = n := by simp [chain]
theorem chain_at {n : Nat} {ring : Bool} {j : Nat} (h : j < n) : (chain n ring)[j]? = some (cob n ring j) := by
  unfold chain; rw [List.getElem?_map, List.getElem?_range h]; rfl
theorem corder_length (n fr k : Nat) : (corder n fr k).length = k := by simp [corder]
theorem corder_at {n fr k i : Nat} (h : i < k) : (corder n fr k)[i]? = some (24 * (cidx n fr i : Int) + 8) := by
  unfold corder; rw [List.getElem?_map, List.getElem?_range h]; rfl
theorem corder_succ (n fr k : Nat) : corder n fr (k + 1) = corder n fr k ++ [24 * (cidx n fr k : Int) + 8] := by unfold corder; rw [List.range_succ, List.map_append]; rfl
theorem crefs (n : Nat) (ring : Bool) (j : Nat) : refsG [] (cob n ring j) = [0] := by
  unfold refsG refsT cob
  simp [addAll, addN, inB, List.range, List.range.loop]
theorem chain_ob (s : AS) (n : Nat) (ring : Bool) (hs : s.used = chain n ring) {j : Nat} (h : j < n) : isOb s (24 * (j : Int) + 8) = true ∧ obAt s (24 * (j : Int) + 8) = cob n ring j ∧ findOb 0 s.used (24 * (j : Int) + 8) = some (cob n ring j) := by
  have h1 : findOb 0 s.used (24 * (j : Int) + 8) = some (cob n ring j) := by rw [hs]; exact unif_find 24 _ (chain_size n ring) (chain_at h)
  unfold isOb obAt
  rw [h1]
  exact ⟨rfl, rfl, rfl⟩
theorem cidx_lt {n fr : Nat} {ring : Bool} (hf : fr < n) {i : Nat} (h : i < ckept n fr ring) : cidx n fr i < n := by
  unfold cidx; unfold ckept at h
  split <;> split at h <;> omega
theorem cnext_cidx {n fr : Nat} {ring : Bool} (hf : fr < n) {i : Nat} (hl : i + 1 < ckept n fr ring) : cnext n ring (cidx n fr i) = 24 * (cidx n fr (i + 1) : Int) + 8 := by
  cases ring with
  | false =>
    have hl2 : i + 1 < n - fr := hl
    unfold cnext cidx
    rw [if_pos (by omega : fr + i < n), if_pos (by omega : fr + i + 1 < n), if_pos (by omega : fr + (i + 1) < n)]; omega
  | true =>
    have hl2 : i + 1 < n := hl
    unfold cnext cidx
    by_cases h1 : fr + i < n
    · rw [if_pos h1]
      by_cases h2 : fr + i + 1 < n
      · rw [if_pos h2, if_pos (by omega : fr + (i + 1) < n)]; omega
      · rw [if_neg h2, if_pos rfl, if_neg (by omega : ¬ fr + (i + 1) < n)]; omega
    · rw [if_neg h1, if_pos (by omega : fr + i - n + 1 < n), if_neg (by omega : ¬ fr + (i + 1) < n)]; omega
section
variable (s : AS) (n fr : Nat) (ring : Bool) (hs : s.used = chain n ring) (hf : fr < n)
include hs hf
theorem chain_reachK : ∀ i, reachK s [] [24 * (fr : Int) + 8] i = corder n fr (min (i + 1) (ckept n fr ring))
  | 0 => by
    have hk : 1 ≤ ckept n fr ring := by unfold ckept; split <;> omega
    rw [Nat.min_eq_left hk]
    have h0 : cidx n fr 0 = fr := by unfold cidx; rw [if_pos (by omega)]; omega
    have h1 := (chain_ob s n ring hs hf).1
    show addN (isOb s) [] (24 * (fr : Int) + 8) = _
    rw [addN_new h1 (by simp)]
    unfold corder
    simp [List.range, List.range.loop, h0]
  | i + 1 => by
    have ih := chain_reachK i
    show stepB s [] (reachK s [] [24 * (fr : Int) + 8] i) i = _
    rw [ih]
    unfold stepB
    by_cases hi : i < ckept n fr ring
    · have hmin : i < min (i + 1) (ckept n fr ring) := by omega
      rw [corder_at hmin]
      have hlt := cidx_lt hf hi
      have hob := chain_ob s n ring hs hlt
      simp only [hob.2.2]
      rw [crefs n ring]
      show addN (isOb s) (corder n fr (min (i + 1) (ckept n fr ring))) (getV (some (cob n ring (cidx n fr i))) 0) = _
      have hg : getV (some (cob n ring (cidx n fr i))) 0 = cnext n ring (cidx n fr i) := by unfold getV cob; simp
      rw [hg]
      by_cases hl : i + 1 < ckept n fr ring
      · have hc := cnext_cidx hf hl
        have hlt2 := cidx_lt hf hl
        rw [hc, Nat.min_eq_left (by omega), Nat.min_eq_left (by omega), corder_succ n fr (i + 1)]
        refine addN_new (chain_ob s n ring hs hlt2).1 (fun h => ?_)
        unfold corder at h
        obtain ⟨j, hj, e⟩ := List.mem_map.1 h
        have hj2 := List.mem_range.1 hj
        have e2 : cidx n fr j = cidx n fr (i + 1) := by omega
        unfold cidx at e2
        unfold ckept at hl
        split at hl <;> split at e2 <;> split at e2 <;> omega
      · rw [show min (i + 1) (ckept n fr ring) = ckept n fr ring from by omega, show min (i + 1 + 1) (ckept n fr ring) = ckept n fr ring from by omega]
        apply addN_skip
        unfold cnext
        unfold ckept at hi hl
        cases ring with
        | false =>
          right
          simp only [Bool.false_eq_true, if_false] at hi hl ⊢
          have : ¬ cidx n fr i + 1 < n := by unfold cidx; split <;> omega
          rw [if_neg this]
          exact isOb_zero s
        | true =>
          left
          simp only [if_true] at hi hl ⊢
          have hk : ckept n fr true = n := rfl
          unfold corder
          by_cases h2 : cidx n fr i + 1 < n
          · rw [if_pos h2]
            refine List.mem_map.2 ⟨0, List.mem_range.2 (by rw [hk]; omega), ?_⟩
            have : cidx n fr 0 = cidx n fr i + 1 := by
              unfold cidx at h2 ⊢
              split at h2 <;> split <;> omega
            rw [this]; omega
          · rw [if_neg h2]
            refine List.mem_map.2 ⟨0, List.mem_range.2 (by rw [hk]; omega), ?_⟩
            have : cidx n fr 0 = 0 := by
              unfold cidx at h2 ⊢
              split at h2 <;> split <;> omega
            rw [this]; rfl
    · rw [List.getElem?_eq_none (by rw [corder_length]; omega)]
      simp only
      rw [show min (i + 1) (ckept n fr ring) = ckept n fr ring from by omega, show min (i + 1 + 1) (ckept n fr ring) = ckept n fr ring from by omega]
theorem chain_reach : reach s [] [24 * (fr : Int) + 8] = corder n fr (ckept n fr ring) := by
  have hu : s.used.length = n := by rw [hs, chain_length]
  have h1 := chain_reachK s n fr ring hs hf s.used.length
  have hk : ckept n fr ring ≤ n := by unfold ckept; split <;> omega
  rw [show min (s.used.length + 1) (ckept n fr ring) = ckept n fr ring from by omega] at h1
  exact h1
theorem chain_objs : ∀ x ∈ objs s (reach s [] [24 * (fr : Int) + 8]), x.size = 24 := fun x hx => by
  obtain ⟨a, ha, rfl⟩ := List.mem_map.1 hx
  rw [chain_reach s n fr ring hs hf] at ha
  unfold corder at ha
  obtain ⟨j, hj, rfl⟩ := List.mem_map.1 ha
  rw [(chain_ob s n ring hs (cidx_lt hf (List.mem_range.1 hj))).2.1]; rfl
theorem chain_len : (reach s [] [24 * (fr : Int) + 8]).length = ckept n fr ring := by rw [chain_reach s n fr ring hs hf, corder_length]
theorem chain_adr {i : Nat} (hi : i ≤ ckept n fr ring) : adr (objs s (reach s [] [24 * (fr : Int) + 8])) i = 24 * (i : Int) + 8 :=
  unif_adr 24 _ (chain_objs s n fr ring hs hf) (by rw [objs_length, chain_len s n fr ring hs hf]; exact hi)
theorem chain_went {i : Nat} (hi : i < ckept n fr ring) : wentTo s [] [24 * (fr : Int) + 8] (24 * (cidx n fr i : Int) + 8) = some (24 * (i : Int) + 8) := by
  have h1 : (reach s [] [24 * (fr : Int) + 8])[i]? = some (24 * (cidx n fr i : Int) + 8) := by rw [chain_reach s n fr ring hs hf]; exact corder_at hi
  obtain ⟨h2, e⟩ := List.getElem?_eq_some_iff.1 h1
  have h3 := (reach_good s [] [24 * (fr : Int) + 8]).1.idxOf_getElem i h2
  rw [e] at h3
  rw [wentTo_eq, if_pos (List.mem_of_getElem? h1), h3, chain_adr s n fr ring hs hf (by omega)]
theorem chain_root : rootsOk s [24 * (fr : Int) + 8] ∧ collectR s [] [24 * (fr : Int) + 8] = [8] ∧ tot (collectS s [] [24 * (fr : Int) + 8]).used = 24 * ckept n fr ring := by
  have hk : 0 < ckept n fr ring := by unfold ckept; split <;> omega
  refine ⟨fun a ha => ?_, ?_, ?_⟩
  · simp at ha; subst ha; exact .inr (chain_ob s n ring hs hf).1
  · have h1 := chain_went s n fr ring hs hf hk
    rw [show cidx n fr 0 = fr from by unfold cidx; rw [if_pos (by omega)]; rfl] at h1
    rw [collectR_phi]
    show [phi s [] [24 * (fr : Int) + 8] (24 * (fr : Int) + 8)] = [8]
    unfold phi; rw [h1]; rfl
  · rw [collect_tot, unif_tot 24 _ (chain_objs s n fr ring hs hf), objs_length, chain_len s n fr ring hs hf]
theorem chain_slot {i : Nat} (hi : i < ckept n fr ring) : ∃ x, findOb 0 (collectS s [] [24 * (fr : Int) + 8]).used (24 * (i : Int) + 8) = some x ∧ x.vs.length = 1 ∧
    getV (some x) 0 = if i + 1 = ckept n fr ring then (if ring = true then 8 else 0) else 24 * ((i : Int) + 1) + 8 := by
  have h1 : (reach s [] [24 * (fr : Int) + 8])[i]? = some (24 * (cidx n fr i : Int) + 8) := by rw [chain_reach s n fr ring hs hf]; exact corder_at hi
  have h2 := collect_find s [] [24 * (fr : Int) + 8] h1
  rw [chain_adr s n fr ring hs hf (by omega), (chain_ob s n ring hs (cidx_lt hf hi)).2.1] at h2
  refine ⟨_, h2, by show (fixVs _ _ _).length = 1; rw [fixVs_length]; rfl, ?_⟩
  have h3 : getV (some (fixOb [] (wentTo s [] [24 * (fr : Int) + 8]) (cob n ring (cidx n fr i)))) 0 = (fixVs (wentTo s [] [24 * (fr : Int) + 8]) [cnext n ring (cidx n fr i)] (refsG [] (cob n ring (cidx n fr i))))[0]?.getD 0 := by
    have hl : (fixOb [] (wentTo s [] [24 * (fr : Int) + 8]) (cob n ring (cidx n fr i))).vs.length = 1 := fixVs_length _ _ _
    unfold getV; simp only
    rw [hl, if_neg (by omega), List.getD_eq_getElem?_getD]; rfl
  rw [h3, crefs, fixVs_get _ [0] [cnext n ring (cidx n fr i)] (by simp) (by simp) 0 (by simp), if_pos (by simp)]
  show (wentTo s [] [24 * (fr : Int) + 8] (cnext n ring (cidx n fr i))).getD (cnext n ring (cidx n fr i)) = _
  by_cases hl : i + 1 < ckept n fr ring
  · rw [cnext_cidx hf hl, chain_went s n fr ring hs hf hl, if_neg (by omega)]
    simp
  · rw [if_pos (by omega)]
    cases ring with
    | false =>
      have hi2 : i < n - fr := hi
      have hl2 : ¬ i + 1 < n - fr := hl
      have hc : cnext n false (cidx n fr i) = 0 := by
        unfold cnext cidx
        rw [if_pos (by omega : fr + i < n), if_neg (by omega)]; rfl
      rw [hc, wentTo_eq, if_neg]
      · rfl
      · intro h
        have h7 := (reach_good s [] [24 * (fr : Int) + 8]).2 0 h
        rw [isOb_zero] at h7; cases h7
    | true =>
      have hi2 : i < n := hi
      have hl2 : ¬ i + 1 < n := hl
      have hc : cnext n true (cidx n fr i) = 24 * (cidx n fr 0 : Int) + 8 := by
        unfold cnext cidx
        by_cases h1 : fr + i < n
        · rw [if_pos h1, if_pos (by omega : fr + 0 < n)]
          rw [if_neg (by omega : ¬ fr + i + 1 < n), if_pos rfl]; omega
        · rw [if_neg h1, if_pos (by omega : fr + 0 < n), if_pos (by omega : fr + i - n + 1 < n)]; omega
      rw [hc, chain_went s n fr true hs hf (by show 0 < n; omega), if_pos rfl]; rfl
end
end Go.Proofs.Ytniifefmjdjebaa
