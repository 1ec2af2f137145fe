/- What a collection keeps, in plain words. No program in sight. -/
import Derived.Test.YtniifefmjdjebaaP0
import Derived.Test.YtniifefmjdjebaaKK
namespace Go.Proofs.Ytniifefmjdjebaa
open Go.RowKit
set_option linter.unusedVariables false
set_option linter.unusedSimpArgs false
theorem fixVs_get (f : Int → Option Int) : ∀ (ns vs : List Int), ns.Nodup → (∀ n ∈ ns, 0 ≤ n) → ∀ (j : Nat), j < vs.length →
    (fixVs f vs ns)[j]?.getD 0 = if (j : Int) ∈ ns then (f (vs[j]?.getD 0)).getD (vs[j]?.getD 0) else vs[j]?.getD 0
  | [], vs, _, _, j, _ => by simp [fixVs]
  | n :: ns, vs, hn, h0, j, hj => by
    have hn2 := List.nodup_cons.1 hn
    have h00 := h0 n List.mem_cons_self
    show (fixVs f (match f (vs[n.toNat]?.getD 0) with | some now => vs.set n.toNat now | none => vs) ns)[j]?.getD 0 = _
    have hl : (match f (vs[n.toNat]?.getD 0) with | some now => vs.set n.toNat now | none => vs).length = vs.length := by split <;> simp
    rw [fixVs_get f ns _ hn2.2 (fun m hm => h0 m (List.mem_cons_of_mem _ hm)) j (by rw [hl]; exact hj)]
    by_cases hjn : (j : Int) = n
    · subst hjn
      rw [if_neg hn2.1, if_pos List.mem_cons_self, Int.toNat_natCast]
      cases hf : f (vs[j]?.getD 0) with
      | none => rfl
      | some now => simp only [Option.getD_some, List.getElem?_set_self hj]
    · have hne : n.toNat ≠ j := by omega
      have e : (match f (vs[n.toNat]?.getD 0) with | some now => vs.set n.toNat now | none => vs)[j]?.getD 0 = vs[j]?.getD 0 := by
        split
        · rw [List.getElem?_set_ne hne]
        · rfl
      rw [e]
      by_cases hm : (j : Int) ∈ ns
      · rw [if_pos hm, if_pos (List.mem_cons_of_mem _ hm)]
      · rw [if_neg hm, if_neg (by simp [hjn, hm])]
section
variable (s : AS) (T : List (List Int)) (rts : List Int)
/-- Where each goes. -/
def wentTo (a : Int) : Option Int := toK (reach s T rts) (objs s (reach s T rts)) (reach s T rts).length a
theorem wentTo_eq (a : Int) : wentTo s T rts a = if a ∈ reach s T rts then some (adr (objs s (reach s T rts)) ((reach s T rts).idxOf a)) else none := by
  unfold wentTo toK; rw [List.take_length]
theorem collect_used : (collectS s T rts).used = (objs s (reach s T rts)).map (fixOb T (wentTo s T rts)) := rfl
theorem collect_len : (collectS s T rts).used.length = (reach s T rts).length := by rw [collect_used, List.length_map, objs_length]
theorem collect_adr (i : Nat) : adr (collectS s T rts).used i = adr (objs s (reach s T rts)) i := by
  unfold adr; rw [collect_used, tot_fix]
theorem collect_tot : tot (collectS s T rts).used = tot (objs s (reach s T rts)) := by
  have h := tot_fix T (wentTo s T rts) (objs s (reach s T rts)) (objs s (reach s T rts)).length
  rw [List.take_of_length_le (by simp), List.take_length] at h
  exact h
theorem collect_addrs_at {i : Nat} (hi : i < (reach s T rts).length) : (addrs 0 (collectS s T rts).used)[i]?.getD 0 = adr (objs s (reach s T rts)) i := by
  rw [addrs_adr _ i (by rw [collect_len]; exact hi), collect_adr]
theorem collect_find {i : Nat} {a : Int} (h : (reach s T rts)[i]? = some a) : findOb 0 (collectS s T rts).used (adr (objs s (reach s T rts)) i) = some (fixOb T (wentTo s T rts) (obAt s a)) := by
  have hi : i < (collectS s T rts).used.length := by rw [collect_len]; exact (List.getElem?_eq_some_iff.1 h).1
  have h1 := find_adr (collectS s T rts).used i hi
  rw [collect_adr] at h1
  rw [h1]
  have h2 : (collectS s T rts).used[i]? = some (fixOb T (wentTo s T rts) (obAt s a)) := by
    rw [collect_used, List.getElem?_map, objs_at s _ i a h]; rfl
  rw [List.getElem?_eq_getElem hi] at h2
  exact h2
/-- Where an address went, by the two lists. -/
theorem went_row {a : Int} (ha : a ∈ reach s T rts) : goesTo (reach s T rts).length (fun j => (reach s T rts)[j]?.getD 0) (fun j => (addrs 0 (collectS s T rts).used)[j]?.getD 0) a = (wentTo s T rts a).getD 0 := by
  rw [goesTo_row _ _ _ (by rw [addrs_length, collect_len]), if_pos ha, wentTo_eq, if_pos ha, collect_addrs_at s T rts (List.idxOf_lt_length_of_mem ha)]; rfl
theorem keep_slot {a : Int} (ha : a ∈ reach s T rts) {j : Nat} (hj : j < (obAt s a).vs.length) :
    getV (some (fixOb T (wentTo s T rts) (obAt s a))) j = if (j : Int) ∈ goodG T (obAt s a) ∧ isOb s (getV (some (obAt s a)) j) = true
      then goesTo (reach s T rts).length (fun j => (reach s T rts)[j]?.getD 0) (fun j => (addrs 0 (collectS s T rts).used)[j]?.getD 0) (getV (some (obAt s a)) j) else getV (some (obAt s a)) j := by
  have hob := (reach_good s T rts).2 a ha
  have hx := isOb_some hob
  have hv : getV (some (obAt s a)) j = (obAt s a).vs[j]?.getD 0 := by
    unfold getV; simp only
    rw [if_neg (by omega), List.getD_eq_getElem?_getD, Int.toNat_natCast]
  have hl : (fixOb T (wentTo s T rts) (obAt s a)).vs.length = (obAt s a).vs.length := fixVs_length _ _ _
  have hv2 : getV (some (fixOb T (wentTo s T rts) (obAt s a))) j = (fixVs (wentTo s T rts) (obAt s a).vs (refsG T (obAt s a)))[j]?.getD 0 := by
    unfold getV; simp only
    rw [hl, if_neg (by omega), List.getD_eq_getElem?_getD, Int.toNat_natCast]; rfl
  have hnd : (refsG T (obAt s a)).Nodup := addAll_nodup List.nodup_nil
  have hn0 : ∀ n ∈ refsG T (obAt s a), 0 ≤ n := fun n hn => (of_decide_eq_true (mem_refsG.1 hn).2).1
  rw [hv2, fixVs_get _ _ _ hnd hn0 j hj]
  by_cases hm : (j : Int) ∈ refsG T (obAt s a)
  · have hg : (j : Int) ∈ goodG T (obAt s a) := mem_goodG.2 (mem_refsG.1 hm)
    rw [if_pos hm]
    by_cases hob2 : isOb s (getV (some (obAt s a)) j) = true
    · have hin := reach_closed ha hx hm hob2
      rw [if_pos ⟨hg, hob2⟩, went_row s T rts hin, ← hv, wentTo_eq, if_pos hin]; rfl
    · have hnin : getV (some (obAt s a)) j ∉ reach s T rts := fun h => hob2 ((reach_good s T rts).2 _ h)
      rw [if_neg (fun h => hob2 h.2), ← hv, wentTo_eq, if_neg hnin]; rfl
  · rw [if_neg hm, if_neg (fun h => hm (mem_refsG.2 (mem_goodG.1 h.1))), hv]
theorem keep_root (hok : rootsOk s rts) {j : Nat} (hj : j < rts.length) :
    (collectR s T rts)[j]?.getD 0 = if rts[j]?.getD 0 = 0 then 0 else goesTo (reach s T rts).length (fun j => (reach s T rts)[j]?.getD 0) (fun j => (addrs 0 (collectS s T rts).used)[j]?.getD 0) (rts[j]?.getD 0) := by
  have h1 : (collectR s T rts)[j]? = some ((wentTo s T rts rts[j]).getD 0) := by
    unfold collectR; rw [List.getElem?_map, List.getElem?_eq_getElem hj]; rfl
  rw [h1, List.getElem?_eq_getElem hj, Option.getD_some, Option.getD_some]
  by_cases h0 : rts[j] = 0
  · rw [if_pos h0, h0, wentTo_eq, if_neg]
    · rfl
    · intro h
      have := (reach_good s T rts).2 0 h
      unfold isOb at this
      rw [findOb_lt _ _ _ (by omega)] at this
      cases this
  · rw [if_neg h0]
    have hob : isOb s rts[j] = true := (hok _ (List.getElem_mem hj)).elim (fun h => absurd h h0) id
    rw [went_row s T rts (reach_roots (List.getElem_mem hj) hob)]
end
end Go.Proofs.Ytniifefmjdjebaa
