/- Walk: ArenaCopies. -/
import Derived.Test.YtniifefmjdjebaaD3
import Derived.Test.YtniifefmjdjebaaC3
namespace Go.Proofs.Ytniifefmjdjebaa
open Go.RowKit
set_option linter.unusedVariables false
set_option linter.unusedSimpArgs false

/-- The address of the j-th object. -/
def adr (L : List Ob) (j : Nat) : Int := (tot (L.take j) : Int) + 8
theorem tot_take_mono (L : List Ob) {j j' : Nat} (h : j < j') (hj : j < L.length) : tot (L.take j) + 16 ≤ tot (L.take j') := by
  have h1 := tot_take_succ L j hj
  have h2 := tot_take_le (L.take j') (j + 1)
  rw [List.take_take, Nat.min_eq_left (by omega)] at h2
  omega
theorem adr_inj (L : List Ob) {j j' : Nat} (hj : j < L.length) (hj' : j' < L.length) (h : adr L j = adr L j') : j = j' := by
  unfold adr at h
  rcases Nat.lt_trichotomy j j' with h1 | h1 | h1
  · have := tot_take_mono L h1 hj; omega
  · exact h1
  · have := tot_take_mono L h1 hj'; omega
theorem find_adr (L : List Ob) (j : Nat) (h : j < L.length) : findOb 0 L (adr L j) = some L[j] := find_get L j h
/-- The order in which the law copies: from the r-th on, round. -/
def rot (L : List Ob) (r : Nat) : List Ob := L.drop r ++ L.take r
theorem rot_length (L : List Ob) (r : Nat) (h : r ≤ L.length) : (rot L r).length = L.length := by simp [rot]; omega
theorem rot_tot (L : List Ob) (r : Nat) : tot (rot L r) = tot L := by
  have : tot L = tot (L.take r) + tot (L.drop r) := by rw [← tot_append, List.take_append_drop]
  rw [rot, tot_append]; omega
theorem rot_at (L : List Ob) (r i : Nat) (hr : r < L.length) (hi : i < L.length) : (rot L r)[i]? = L[(i + r) % L.length]? := by
  unfold rot
  by_cases h : i < L.length - r
  · rw [List.getElem?_append_left (by simp; omega), List.getElem?_drop, Nat.mod_eq_of_lt (by omega), Nat.add_comm]
  · rw [List.getElem?_append_right (by simp; omega), List.length_drop, List.getElem?_take_of_lt (by omega), Nat.mod_eq_sub_mod (by omega), Nat.mod_eq_of_lt (by omega)]
    congr 1; omega
theorem rot_inj {n r i j : Nat} (hr : r < n) (hi : i < n) (hj : j < n) (h : (i + r) % n = (j + r) % n) : i = j := by
  rcases Nat.lt_or_ge (i + r) n with h1 | h1 <;> rcases Nat.lt_or_ge (j + r) n with h2 | h2
  · rw [Nat.mod_eq_of_lt h1, Nat.mod_eq_of_lt h2] at h; omega
  · rw [Nat.mod_eq_of_lt h1, Nat.mod_eq_sub_mod h2, Nat.mod_eq_of_lt (by omega)] at h; omega
  · rw [Nat.mod_eq_of_lt h2, Nat.mod_eq_sub_mod h1, Nat.mod_eq_of_lt (by omega)] at h; omega
  · rw [Nat.mod_eq_sub_mod h1, Nat.mod_eq_of_lt (a := i + r - n) (by omega), Nat.mod_eq_sub_mod h2, Nat.mod_eq_of_lt (a := j + r - n) (by omega)] at h; omega
/-- The arena when k objects have been copied. -/
structure Cp (L : List Ob) (r semi k : Nat) (u : AS) : Prop where
  used : u.used = (rot L r).take k
  ahead : u.ahead = L
  semi : u.semi = semi
  moved : ∀ i, k ≤ i → i < L.length → u.moved (adr L ((i + r) % L.length)) = none
theorem Cp.step {L : List Ob} {r semi k : Nat} {u : AS} (h : Cp L r semi k u) (hr : r < L.length) (hk : k < L.length) (ht : tot L ≤ semi) (hsz : ∀ x ∈ L, x.vs.length ≤ 65536) (j : Nat) (hj : j = (k + r) % L.length) (x : Ob) (hx : L[j]? = some x) :
    u.copyA (adr L j) = tot u.used + 8 ∧ u.copyE (adr L j) = 0 ∧ ∃ u', u.copy (adr L j) = u' ∧ Cp L r semi (k + 1) u' ∧ u'.copyA (adr L j) = tot u.used + 8 ∧ u'.copyE (adr L j) = 0 ∧ u'.copy (adr L j) = u' ∧ findOb 0 u'.used ((tot u.used : Int) + 8) = some x := by
  have hjn : j < L.length := by rw [hj]; exact Nat.mod_lt _ (by omega)
  have hf : findOb 0 u.ahead (adr L j) = some x := by
    rw [h.ahead]
    have := find_get L j hjn
    rw [List.getElem?_eq_getElem hjn] at hx
    rw [Option.some.inj hx] at this
    exact this
  have hm : u.moved (adr L j) = none := by rw [hj]; exact h.moved k (Nat.le_refl _) hk
  have hMk : (rot L r)[k]? = some x := by rw [rot_at L r k hr hk, ← hj, hx]
  have hkM : k < (rot L r).length := by rw [rot_length L r (by omega)]; exact hk
  have hMk' : (rot L r)[k] = x := by rw [List.getElem?_eq_getElem hkM] at hMk; exact Option.some.inj hMk
  have hroom : roomB u x.vs.length = true := by
    apply roomB_true
    have h1 := tot_take_succ (rot L r) k hkM
    have h2 := tot_take_le (rot L r) (k + 1)
    rw [rot_tot] at h2
    rw [hMk'] at h1
    have h3 := hsz x (List.mem_of_getElem? hx)
    rw [h.semi, h.used]
    omega
  have e1 : u.copyA (adr L j) = tot u.used + 8 := by unfold AS.copyA; rw [hf, hm]; simp only [hroom, if_true]
  have e2 : u.copyE (adr L j) = 0 := by unfold AS.copyE; rw [hf, hm]; simp only [hroom, if_true]
  have e3 : u.copy (adr L j) = u.copied (adr L j) x := by unfold AS.copy; rw [hf, hm]; simp only [hroom, if_true]
  have hm' : (u.copied (adr L j) x).moved (adr L j) = some ((tot u.used : Int) + 8) := if_pos rfl
  have hf' : findOb 0 (u.copied (adr L j) x).ahead (adr L j) = some x := hf
  refine ⟨e1, e2, _, e3, ⟨?_, h.ahead, h.semi, fun i h1 h2 => ?_⟩, ?_, ?_, ?_, ?_⟩
  · show u.used ++ [x] = _
    rw [h.used, List.take_succ_eq_append_getElem hkM, hMk']
  · show (if adr L ((i + r) % L.length) = adr L j then some ((tot u.used : Int) + 8) else u.moved (adr L ((i + r) % L.length))) = none
    rw [if_neg, h.moved i (by omega) h2]
    intro he
    have h3 := adr_inj L (Nat.mod_lt _ (by omega)) hjn he
    rw [hj] at h3
    have := rot_inj hr h2 hk h3
    omega
  · unfold AS.copyA; rw [hf', hm']
  · unfold AS.copyE; rw [hf', hm']
  · unfold AS.copy; rw [hf', hm']
  · show findOb 0 (u.used ++ [x]) _ = _
    rw [findOb_append, if_pos (by omega)]
/-- The first k objects hold 7 i in slot 0, where there is one. -/
def Sevens (L : List Ob) (k : Nat) : Prop := ∀ i, i < k → ∀ x, L[i]? = some x → 0 < x.vs.length → x.vs[0]?.getD (0 : Int) = 7 * (i : Int)
theorem put_eq (t : AS) (i : Nat) (hi : i < t.used.length) (v : Int) : ∃ t', t.put (adr t.used i) 0 v = t' ∧ addrs 0 t'.used = addrs 0 t.used ∧ t'.ahead = t.ahead ∧ t'.semi = t.semi ∧
    ∀ i', i' ≠ i → t'.used[i']? = t.used[i']? := by
  refine ⟨_, rfl, addrs_put _ _ _ _, ?_, ?_, ?_⟩
  · unfold AS.put; split <;> rfl
  · unfold AS.put; split <;> rfl
  · intro i' hne
    unfold AS.put
    split
    · have e := setOb_get t.used 0 i (0 : Int).toNat v hi
      rw [show ((0 : Nat) : Int) + tot (t.used.take i) + 8 = adr t.used i from by unfold adr; omega] at e
      show (setOb 0 t.used (adr t.used i) (0 : Int).toNat v)[i']? = _
      rw [e, List.getElem?_set_ne (Ne.symm hne)]
    · rfl
theorem Sevens.put {t : AS} {i : Nat} (h : Sevens t.used i) (hi : i < t.used.length) : Sevens (t.put (adr t.used i) 0 (7 * i)).used (i + 1) := by
  intro i' hi' x hx hp
  obtain ⟨t', e, _, _, _, hother⟩ := put_eq t i hi (7 * i)
  by_cases hne : i' = i
  · subst hne
    unfold AS.put at hx
    split at hx
    · have e := setOb_get t.used 0 i' (0 : Int).toNat (7 * i') hi
      rw [show ((0 : Nat) : Int) + tot (t.used.take i') + 8 = adr t.used i' from by unfold adr; omega] at e
      simp only at hx
      rw [e, List.getElem?_set_self hi] at hx
      simp only [Option.some.injEq] at hx
      subst hx
      simp only [List.length_set] at hp
      show ((t.used[i']?.getD ⟨0, []⟩).vs.set 0 (7 * (i' : Int)))[0]?.getD 0 = _
      rw [List.getElem?_set_self hp]
      rfl
    · rename_i hne
      rw [find_adr t.used i' hi] at hne
      rw [List.getElem?_eq_getElem hi] at hx
      obtain rfl := Option.some.inj hx
      exact absurd (show slotE (some t.used[i']) 0 = 0 from if_neg (by omega)) hne
  · rw [e, hother i' hne] at hx
    exact h i' (by omega) x hx hp
end Go.Proofs.Ytniifefmjdjebaa
