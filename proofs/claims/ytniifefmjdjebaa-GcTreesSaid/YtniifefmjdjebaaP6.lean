/- Collected at once again, in plain words: nothing turns. No program in sight. -/
import Derived.Test.YtniifefmjdjebaaP4
namespace Go.Proofs.Ytniifefmjdjebaa
open Go.RowKit
set_option linter.unusedVariables false
set_option linter.unusedSimpArgs false
theorem isOb_zero (s : AS) : isOb s 0 = false := by
  unfold isOb; rw [findOb_lt _ _ _ (by omega)]; rfl
section
variable (s : AS) (T : List (List Int)) (rts : List Int)
/-- Where each goes; 0 where nowhere. -/
def phi (a : Int) : Int := (wentTo s T rts a).getD 0
theorem phi_in {a : Int} (h : a ∈ reach s T rts) : phi s T rts a = adr (objs s (reach s T rts)) ((reach s T rts).idxOf a) := by
  unfold phi; rw [wentTo_eq, if_pos h]; rfl
theorem phi_zero : phi s T rts 0 = 0 := by
  unfold phi; rw [wentTo_eq, if_neg]
  · rfl
  · intro h
    have h2 := (reach_good s T rts).2 0 h
    rw [isOb_zero] at h2; cases h2
theorem collectR_phi : collectR s T rts = rts.map (phi s T rts) := rfl
theorem addrs_collect : addrs 0 (collectS s T rts).used = (reach s T rts).map (phi s T rts) := by
  apply List.ext_getElem?
  intro i
  by_cases hi : i < (reach s T rts).length
  · have h1 : i < (addrs 0 (collectS s T rts).used).length := by rw [addrs_length, collect_len]; exact hi
    have h2 := collect_addrs_at s T rts hi
    rw [List.getElem?_eq_getElem h1, Option.getD_some] at h2
    rw [List.getElem?_eq_getElem h1, h2, List.getElem?_map, List.getElem?_eq_getElem hi, Option.map_some, phi_in s T rts (List.getElem_mem hi), (reach_good s T rts).1.idxOf_getElem i hi]
  · rw [List.getElem?_eq_none (by rw [addrs_length, collect_len]; omega), List.getElem?_eq_none (by rw [List.length_map]; omega)]
theorem isOb_phi {a : Int} (h : a ∈ reach s T rts) : isOb (collectS s T rts) (phi s T rts a) = true := by
  have h1 : phi s T rts a ∈ addrs 0 (collectS s T rts).used := by rw [addrs_collect]; exact List.mem_map_of_mem h
  exact (mem_addrs _ 0 _).1 h1
theorem phi_inj {a b : Int} (ha : a ∈ reach s T rts) (hb : b ∈ reach s T rts) (h : phi s T rts a = phi s T rts b) : a = b := by
  rw [phi_in s T rts ha, phi_in s T rts hb] at h
  have h1 := List.idxOf_lt_length_of_mem ha
  have h2 := List.idxOf_lt_length_of_mem hb
  have h3 := adr_inj _ (by rw [objs_length]; exact h1) (by rw [objs_length]; exact h2) h
  have e1 := List.getElem_idxOf h1
  have e2 := List.getElem_idxOf h2
  rw [← e1, ← e2]
  congr 1
theorem addAll_phi : ∀ (l out : List Int), (∀ a ∈ l, a = 0 ∨ a ∈ reach s T rts) → (∀ a ∈ out, a ∈ reach s T rts) →
    addAll (isOb (collectS s T rts)) (out.map (phi s T rts)) (l.map (phi s T rts)) = (addAll (isOb s) out l).map (phi s T rts)
  | [], out, _, _ => rfl
  | x :: l, out, hl, ho => by
    rw [List.map_cons]
    show addAll _ (addN _ (out.map (phi s T rts)) (phi s T rts x)) (l.map (phi s T rts)) = (addAll (isOb s) (addN (isOb s) out x) l).map (phi s T rts)
    have hstep : addN (isOb (collectS s T rts)) (out.map (phi s T rts)) (phi s T rts x) = (addN (isOb s) out x).map (phi s T rts) ∧ ∀ a ∈ addN (isOb s) out x, a ∈ reach s T rts := by
      rcases hl x List.mem_cons_self with rfl | hx
      · rw [phi_zero, addN_skip (.inr (isOb_zero _)), addN_skip (.inr (isOb_zero _))]
        exact ⟨rfl, ho⟩
      · have hob := (reach_good s T rts).2 x hx
        by_cases hin : x ∈ out
        · rw [addN_skip (.inl hin), addN_skip (.inl (List.mem_map_of_mem hin))]
          exact ⟨rfl, ho⟩
        · have hnin : phi s T rts x ∉ out.map (phi s T rts) := fun h => by
            obtain ⟨b, hb, e⟩ := List.mem_map.1 h
            have := phi_inj s T rts (ho b hb) hx e
            exact hin (this ▸ hb)
          rw [addN_new hob hin, addN_new (isOb_phi s T rts hx) hnin, List.map_append]
          refine ⟨rfl, fun a ha => ?_⟩
          rcases List.mem_append.1 ha with h | h
          · exact ho a h
          · simp at h; subst h; exact hx
    rw [hstep.1]
    exact addAll_phi l _ (fun a ha => hl a (List.mem_cons_of_mem _ ha)) hstep.2
/-- No slot that a table tells holds a number that is neither 0 nor an address. -/
def Clean (l : List Int) : Prop := ∀ a ∈ l, ∀ n ∈ goodG T (obAt s a), getV (some (obAt s a)) n = 0 ∨ isOb s (getV (some (obAt s a)) n) = true
theorem reachK_sub (i : Nat) (hi : i ≤ s.used.length) : ∀ a ∈ reachK s T rts i, a ∈ reach s T rts := fun a ha => (reachK_prefix s T rts (i := i) (j := s.used.length) hi).subset ha
theorem refsG_fix (f : Int → Option Int) (x : Ob) : refsG T (fixOb T f x) = refsG T x := by
  unfold refsG
  have h : (fixOb T f x).vs.length = x.vs.length := fixVs_length _ _ _
  rw [h]; rfl
theorem leads_phi (hc : Clean s T (reach s T rts)) {a : Int} (ha : a ∈ reach s T rts) :
    leads (fixOb T (wentTo s T rts) (obAt s a)) (refsG T (fixOb T (wentTo s T rts) (obAt s a))) = (leads (obAt s a) (refsG T (obAt s a))).map (phi s T rts) ∧ ∀ v ∈ leads (obAt s a) (refsG T (obAt s a)), v = 0 ∨ v ∈ reach s T rts := by
  have hx := isOb_some ((reach_good s T rts).2 a ha)
  have hv : ∀ n ∈ refsG T (obAt s a), getV (some (obAt s a)) n = 0 ∨ getV (some (obAt s a)) n ∈ reach s T rts := fun n hn => by
    rcases hc a ha n (mem_goodG.2 (mem_refsG.1 hn)) with h | h
    · exact .inl h
    · exact .inr (reach_closed ha hx hn h)
  refine ⟨?_, fun v h => ?_⟩
  · rw [refsG_fix]
    unfold leads
    rw [List.map_map]
    apply List.map_congr_left
    intro n hn
    have hb := of_decide_eq_true (mem_refsG.1 hn).2
    obtain ⟨j, rfl⟩ := Int.eq_ofNat_of_zero_le hb.1
    have hj : j < (obAt s a).vs.length := by omega
    have hl : (fixOb T (wentTo s T rts) (obAt s a)).vs.length = (obAt s a).vs.length := fixVs_length _ _ _
    have hv1 : getV (some (obAt s a)) j = (obAt s a).vs[j]?.getD 0 := by
      unfold getV; simp only
      rw [if_neg (by omega), List.getD_eq_getElem?_getD, Int.toNat_natCast]
    have hv2 : getV (some (fixOb T (wentTo s T rts) (obAt s a))) j = (fixVs (wentTo s T rts) (obAt s a).vs (refsG T (obAt s a)))[j]?.getD 0 := by
      unfold getV; simp only
      rw [hl, if_neg (by omega), List.getD_eq_getElem?_getD, Int.toNat_natCast]; rfl
    show getV (some (fixOb T (wentTo s T rts) (obAt s a))) j = phi s T rts (getV (some (obAt s a)) j)
    have hnd : (refsG T (obAt s a)).Nodup := addAll_nodup List.nodup_nil
    have hn0 : ∀ m ∈ refsG T (obAt s a), 0 ≤ m := fun m hm => (of_decide_eq_true (mem_refsG.1 hm).2).1
    rw [hv2, fixVs_get _ _ _ hnd hn0 j hj, if_pos hn, ← hv1]
    rcases hv _ hn with h | h
    · rw [h]
      have := phi_zero s T rts
      unfold phi at this ⊢
      rw [this]
    · unfold phi; rw [wentTo_eq, if_pos h]; rfl
  · obtain ⟨n, hn, rfl⟩ := List.mem_map.1 h
    exact hv n hn
theorem reachK_phi (hok : rootsOk s rts) (hc : Clean s T (reach s T rts)) : ∀ i, i ≤ s.used.length → reachK (collectS s T rts) T (collectR s T rts) i = (reachK s T rts i).map (phi s T rts)
  | 0, _ => by
    show addAll _ [] (collectR s T rts) = (addAll (isOb s) [] rts).map (phi s T rts)
    rw [collectR_phi]
    exact addAll_phi s T rts rts [] (fun a ha => (hok a ha).imp id (fun h => reach_roots ha h)) (fun _ h => by cases h)
  | i + 1, hi => by
    have ih := reachK_phi hok hc i (by omega)
    show stepB (collectS s T rts) T (reachK (collectS s T rts) T (collectR s T rts) i) i = (stepB s T (reachK s T rts i) i).map (phi s T rts)
    rw [ih]
    unfold stepB
    rw [List.getElem?_map]
    cases hb : (reachK s T rts i)[i]? with
    | none => rfl
    | some b =>
      have hbl : b ∈ reach s T rts := reachK_sub s T rts i (by omega) b (List.mem_of_getElem? hb)
      have hx := isOb_some ((reach_good s T rts).2 b hbl)
      have hidx := List.idxOf_lt_length_of_mem hbl
      have hf := collect_find s T rts (i := (reach s T rts).idxOf b) (a := b) (List.getElem?_eq_some_iff.2 ⟨hidx, List.getElem_idxOf hidx⟩)
      rw [← phi_in s T rts hbl] at hf
      simp only [Option.map_some, hf, hx]
      obtain ⟨l1, l2⟩ := leads_phi s T rts hc hbl
      rw [l1]
      exact addAll_phi s T rts _ _ l2 (reachK_sub s T rts i (by omega))
theorem reach_again (hok : rootsOk s rts) (hc : Clean s T (reach s T rts)) : reach (collectS s T rts) T (collectR s T rts) = addrs 0 (collectS s T rts).used := by
  have h := reachK_phi s T rts hok hc s.used.length (Nat.le_refl _)
  rw [addrs_collect]
  rw [← reachK_end (collectS s T rts) T (collectR s T rts) s.used.length (by rw [h, List.length_map]; exact reach_len s T rts), h]
  rfl
end
theorem fixVs_id {f : Int → Option Int} (hf : ∀ a, f a = none ∨ f a = some a) : ∀ (ns vs : List Int), fixVs f vs ns = vs
  | [], vs => rfl
  | n :: ns, vs => by
    show fixVs f (match f (vs[n.toNat]?.getD 0) with | some now => vs.set n.toNat now | none => vs) ns = vs
    have e : (match f (vs[n.toNat]?.getD 0) with | some now => vs.set n.toNat now | none => vs) = vs := by
      rcases hf (vs[n.toNat]?.getD 0) with h | h
      · rw [h]
      · rw [h]
        simp only
        by_cases hn : n.toNat < vs.length
        · rw [List.getElem?_eq_getElem hn, Option.getD_some]; exact List.set_getElem_self hn
        · rw [List.set_eq_of_length_le (by omega)]
    rw [e]; exact fixVs_id hf ns vs
theorem objs_addrs (s : AS) : objs s (addrs 0 s.used) = s.used := by
  apply List.ext_getElem?
  intro i
  unfold objs
  rw [List.getElem?_map]
  by_cases hi : i < s.used.length
  · have h1 : i < (addrs 0 s.used).length := by rw [addrs_length]; exact hi
    have h2 := addrs_adr s.used i hi
    rw [List.getElem?_eq_getElem h1, Option.getD_some] at h2
    rw [List.getElem?_eq_getElem h1, List.getElem?_eq_getElem hi, Option.map_some, h2]
    unfold obAt
    rw [find_adr s.used i hi]; rfl
  · rw [List.getElem?_eq_none (by rw [addrs_length]; omega), List.getElem?_eq_none (by omega)]; rfl
theorem addrs_nodup (s : AS) : (addrs 0 s.used).Nodup := by
  refine List.pairwise_iff_getElem.2 (fun i j hi hj hij e => ?_)
  rw [addrs_length] at hi hj
  have h1 := addrs_adr s.used i hi
  have h2 := addrs_adr s.used j hj
  rw [List.getElem?_eq_getElem (by rw [addrs_length]; exact hi), Option.getD_some] at h1
  rw [List.getElem?_eq_getElem (by rw [addrs_length]; exact hj), Option.getD_some] at h2
  have := adr_inj s.used hi hj (h1.symm.trans (e.trans h2))
  omega
/-- A state that is reached whole, each where it lies, stays. -/
theorem collect_still (s : AS) (T : List (List Int)) (rts : List Int) (h : reach s T rts = addrs 0 s.used) (hok : rootsOk s rts) : (collectS s T rts).used = s.used ∧ collectR s T rts = rts := by
  have hf : ∀ a, wentTo s T rts a = if a ∈ addrs 0 s.used then some a else none := fun a => by
    rw [wentTo_eq, h, objs_addrs]
    by_cases ha : a ∈ addrs 0 s.used
    · rw [if_pos ha, if_pos ha]
      have h1 := List.idxOf_lt_length_of_mem ha
      have h2 := addrs_adr s.used ((addrs 0 s.used).idxOf a) (by rw [← addrs_length s.used 0]; exact h1)
      rw [← h2, List.getElem?_eq_getElem h1, Option.getD_some, List.getElem_idxOf h1]
    · rw [if_neg ha, if_neg ha]
  have hid : ∀ a, wentTo s T rts a = none ∨ wentTo s T rts a = some a := fun a => by
    rw [hf]; split
    · exact .inr rfl
    · exact .inl rfl
  refine ⟨?_, ?_⟩
  · rw [collect_used, h, objs_addrs]
    conv => rhs; rw [← List.map_id s.used]
    apply List.map_congr_left
    intro x _
    unfold fixOb
    rw [fixVs_id hid]; rfl
  · rw [collectR_phi]
    conv => rhs; rw [← List.map_id rts]
    apply List.map_congr_left
    intro a ha
    unfold phi
    rw [hf]
    rcases hok a ha with h0 | h0
    · subst h0
      rw [if_neg (fun h => by have := (mem_addrs s.used 0 0).1 h; have h2 := isOb_zero s; unfold isOb at h2; rw [h2] at this; cases this)]; rfl
    · rw [if_pos ((mem_addrs s.used 0 a).2 h0)]; rfl
theorem collect_again (s : AS) (T : List (List Int)) (rts : List Int) (hok : rootsOk s rts) (hc : Clean s T (reach s T rts)) :
    rootsOk (collectS s T rts) (collectR s T rts) ∧ (collectS (collectS s T rts) T (collectR s T rts)).used = (collectS s T rts).used ∧ collectR (collectS s T rts) T (collectR s T rts) = collectR s T rts := by
  have hok2 : rootsOk (collectS s T rts) (collectR s T rts) := fun b hb => by
    rw [collectR_phi] at hb
    obtain ⟨a, ha, rfl⟩ := List.mem_map.1 hb
    rcases hok a ha with rfl | h
    · exact .inl (phi_zero s T rts)
    · exact .inr (isOb_phi s T rts (reach_roots ha h))
  exact ⟨hok2, collect_still _ T _ (reach_again s T rts hok hc) hok2⟩
theorem reach_none (s : AS) (T : List (List Int)) : reach s T [] = [] := by
  have h : reachK s T [] 0 = [] := rfl
  rw [← reachK_end s T [] 0 (by rw [h]; exact Nat.le_refl _), h]
theorem collect_none (s : AS) (T : List (List Int)) : (collectS s T []).used = [] ∧ collectR s T [] = [] := by
  refine ⟨?_, rfl⟩
  rw [collect_used, reach_none]; rfl
end Go.Proofs.Ytniifefmjdjebaa
