/- Walk: ArenaPuts. -/
import Derived.Test.YtniifefmjdjebaaC1
namespace Go.Proofs.Ytniifefmjdjebaa
open Go.RowKit
set_option linter.unusedVariables false
set_option linter.unusedSimpArgs false

theorem und9 : Try.prog.underlying 9 = some .string := by kernel_rfl
theorem und5 : Try.prog.underlying 5 = some (.int .u8) := by kernel_rfl
/-- 'string(b)' of an owned row. -/
theorem conv_row {w : World} {n : Nat} {v : Value} {xs : List Int} (h : w.ownsRow 0 5 1 v n (xs.map (Value.int .u8))) : (Go.convert 33 9 v).run Try.prog w = .ok (.string (strOfNums xs)) w := by
  rcases h.2 with ⟨rfl, h0⟩ | ⟨g, cap, cur, rfl, _, _, hnc, _⟩
  · have : xs = [] := by have := h.1; simp at this; exact List.eq_nil_of_length_eq_zero (by omega)
    subst this
    exact run_convert_bytes_nil w 33 5 und33 und5 0 0 9 und9
  · have hl : xs.length = n := by simpa using h.1
    refine run_convert_bytes_arg w 33 5 und33 und5 g 0 n cap xs hl ?_ 9 und9
    intro i hi
    have := row_int h hi
    rw [Nat.zero_add, this, List.getD_eq_getElem?_getD]
/-- 'string(b[:k])', 'string(b[k:])' of an owned row. -/
theorem conv_front {w : World} {n g cap : Nat} {xs : List Int} (h : w.ownsRow 0 5 1 (.slice (some ⟨g, 0, none⟩) n cap) n (xs.map (Value.int .u8))) (k : Nat) (hk : k ≤ n) :
    (Go.convert 33 9 (.slice (some ⟨g, 0, none⟩) k cap)).run Try.prog w = .ok (.string (strOfNums (xs.take k))) w := by
  have hl : xs.length = n := by simpa using h.1
  refine run_convert_bytes_arg w 33 5 und33 und5 g 0 k cap _ (by simp; omega) ?_ 9 und9
  intro i hi
  have := row_int h (j := i) (by omega)
  rw [Nat.zero_add, this, List.getD_eq_getElem?_getD, List.getElem?_take_of_lt hi]
theorem conv_back {w : World} {n g cap : Nat} {xs : List Int} (h : w.ownsRow 0 5 1 (.slice (some ⟨g, 0, none⟩) n cap) n (xs.map (Value.int .u8))) (k : Nat) (hk : k ≤ n) :
    (Go.convert 33 9 (.slice (if cap = k then some ⟨g, 0, none⟩ else some ⟨g, k, none⟩) (n - k) (cap - k))).run Try.prog w = .ok (.string (strOfNums (xs.drop k))) w := by
  have hl : xs.length = n := by simpa using h.1
  have hc : n ≤ cap := by
    rcases h.2 with ⟨h0, _⟩ | ⟨g', cap', cur, h0, _, _, hnc, _⟩
    · simp at h0
    · simp at h0; omega
  split
  · refine run_convert_bytes_arg w 33 5 und33 und5 g 0 (n - k) _ _ (by simp; omega) ?_ 9 und9
    intro i hi
    omega
  · refine run_convert_bytes_arg w 33 5 und33 und5 g k (n - k) _ _ (by simp; omega) ?_ 9 und9
    intro i hi
    rw [row_int h (j := k + i) (by omega), List.getD_eq_getElem?_getD, List.getElem?_drop]
/-- The i-th address. -/
theorem addrs_at (l : List Ob) (i : Nat) (h : i < l.length) : ∃ x, findOb 0 l ((addrs 0 l)[i]?.getD 0) = some x := by
  have hi : i < (addrs 0 l).length := by rw [addrs_length]; exact h
  have hm : (addrs 0 l)[i]?.getD 0 ∈ addrs 0 l := by
    rw [List.getElem?_eq_getElem hi]
    exact List.getElem_mem hi
  have := (mem_addrs l 0 _).1 hm
  exact Option.isSome_iff_exists.1 this
theorem put8_take (bs : List Int) (a : Nat) (n : Int) (h : a + 8 ≤ bs.length) : (put8 bs a n).take a = bs.take a := by
  unfold put8
  rw [List.append_assoc, List.take_left' (by simp; omega)]
theorem put8_drop (bs : List Int) (a : Nat) (n : Int) (h : a + 8 ≤ bs.length) : (put8 bs a n).drop (a + 8) = bs.drop (a + 8) := by
  unfold put8
  rw [List.drop_left' (by simp [w8_length]; omega)]
theorem put8_mid (bs : List Int) (a : Nat) (n : Int) (h : a + 8 ≤ bs.length) : ((put8 bs a n).drop a).take 8 = w8 n := by
  unfold put8
  rw [List.append_assoc, List.drop_left' (by simp; omega), List.take_left' (w8_length n)]
set_option maxRecDepth 100000 in
set_option maxHeartbeats 1000000 in
theorem ArenaPuts_any (semi : Int) (a1 : Option Addr) (len1 cap1 : Nat) (c : Nat → CallD) (at' slot v : Int) (w : World) (hs : I64 semi) (h1 : CallsIn w a1 len1 c) (hat : I64 at') (hslot : I64 slot) (hv : I64 v) :
    Calls Try.prog 5 #[.int .i64 semi, .slice a1 len1 cap1, .int .i64 at', .int .i64 slot, .int .i64 v] w fun e w' => e = .returned (.bool true) ∧ Fr (fun _ => False) w w' := by
  have HI := Lib.hid h1; clear h1
  have Hat := Lib.hid hat; clear hat
  have Hv := Lib.hid hv; clear hv
  obtain ⟨t1, t2⟩ := hslot
  go_enter Try.func5, Try.ntmps5
  go_wp2_with fail
  refine (known_any _).mono ?_
  rintro e w1 ⟨rfl, hf1⟩
  have HF1 := Lib.hid hf1; clear hf1
  go_wp2_with fail
  refine (made_any semi a1 len1 cap1 c _ hs (HI.out.keep HF1.out)).mono ?_
  rintro e w2 ⟨p, S, rfl, hA, hfr, hS⟩
  obtain ⟨s, hsd⟩ : ∃ s, s = madeS semi c len1 := ⟨_, rfl⟩
  rw [← hsd] at hA
  clear hsd
  have HF2 := Lib.hid (HF1.out.trans hfr (fun _ h => h) (fun _ _ h => h))
  have HA := Lib.hid (And.intro hA (show ∀ k, S k → w.heap.size ≤ k from fun k hk => Nat.le_trans HF1.out.size (hS k hk)))
  clear hA hfr hS
  go_wp2_with fail
  refine (All_any p S s _ HA.out.1).mono ?_
  rintro e w3 ⟨vl, rfl, hl, hfr3, hnew3⟩
  have HA3 := Lib.hid (HA.out.1.keep hfr3 (fun _ _ h => h))
  have HF3 := Lib.hid (HF2.out.trans hfr3 (fun _ h => h) (fun _ _ h => h))
  rw [List.length_map, addrs_length] at hl
  have Hl := Lib.hid (And.intro hl hnew3)
  obtain ⟨al, cl, rfl⟩ := row_form hl
  have hlt := len_le_tot s.used
  have hsm : tot s.used ≤ 1048576 := by
    obtain ⟨_, _, _, _, hh⟩ := HA.out.1.used
    exact hh.small
  clear hl hfr3 hnew3
  by_cases hz : s.used.length = 0
  · have hb : ((s.used.length : Int) == 0) = true := by simp [hz]
    have hu : s.used = [] := List.eq_nil_of_length_eq_zero hz
    have E := Lib.hid (show slotE (findOb 0 s.used 8) 0 = 57 from by rw [hu]; rfl)
    have U := Lib.hid (show s.put 8 0 v = s ∧ tot s.used = 0 from by unfold AS.put; rw [E.out, hu]; exact ⟨rfl, rfl⟩)
    clear hz hu
    go_wp2_with fail
    refine (Put_any p 8 0 v S s _ HA3.out Hv.out).mono ?_
    rw [E.out, U.out.1]
    rintro e w4 ⟨rfl, hA4, hf4⟩
    have HF4 := Lib.hid (HF3.out.trans (U := fun _ => False) hf4 (fun _ h => h) (fun i hi h => by have := HA.out.2 i h; omega))
    have HA4 := Lib.hid hA4
    clear hA4 hf4
    go_wp2_with fail
    refine (Used_any p S s _ HA4.out).mono ?_
    rw [U.out.2]
    rintro e w5 ⟨rfl, rfl⟩
    go_wp2
    go_ret
    exact ⟨rfl, HF4.out⟩
  · have hb : ((s.used.length : Int) == 0) = false := by rw [beq_eq_false_iff_ne]; omega
    have hpos : 1 ≤ s.used.length := by omega
    obtain ⟨gl, ql, _, el, _, _, _⟩ := row_addr Hl.out.1 (by omega)
    simp only [Value.slice.injEq, true_and] at el
    obtain ⟨rfl, rfl⟩ := el
    have hr1 := Int.emod_nonneg at' (show (s.used.length : Int) ≠ 0 by omega)
    have hr2 := Int.emod_lt_of_pos at' (show (0 : Int) < s.used.length by omega)
    obtain ⟨i, hi⟩ := Int.eq_ofNat_of_zero_le hr1
    have hil : i < s.used.length := by omega
    have hcx := row_int Hl.out.1 (j := i) hil
    obtain ⟨x, hx⟩ := addrs_at s.used i hil
    obtain ⟨a, ha⟩ : ∃ a, a = (addrs 0 s.used)[i]?.getD 0 := ⟨_, rfl⟩
    rw [← ha] at hx hcx
    have Hcx := Lib.hid hcx
    have Hi := Lib.hid hi
    have Hx := Lib.hid hx
    obtain ⟨vb0, m0, _, _, hh0⟩ := HA.out.1.used
    obtain ⟨b1, b2, b3, hok, _⟩ := hh0.word hx
    have hxl := hok.2.1
    clear hz hi hr1 hr2 hcx ha hx hok hh0
    go_wp2_with fail
    refine (within_any at' s.used.length _ Hat.out (by omega) (by omega)).mono ?_
    rw [Hi.out]
    rintro e w4 ⟨rfl, rfl⟩
    have hcx := Hcx.out
    go_wp2_with fail
    refine (Slots_any p a S s _ HA3.out).mono ?_
    rw [Hx.out, show slotsOf (some x) = (x.vs.length : Int) from rfl, show errI (some x) = 0 from rfl]
    rintro e w5 ⟨rfl, rfl⟩
    clear hcx
    go_wp2_with fail
    refine (Bytes_any p S s _ HA3.out).mono ?_
    rintro e w6 ⟨vw, rfl, hw, hf6, hn6⟩
    have HA6 := Lib.hid (HA3.out.keep hf6 (fun _ _ h => h))
    have HF6 := Lib.hid (HF3.out.trans hf6 (fun _ h => h) (fun _ _ h => h))
    rw [List.length_map, encs_length] at hw
    obtain ⟨aw, cw, rfl⟩ := row_form hw
    have Hw := Lib.hid (And.intro hw hn6)
    clear hw hf6 hn6
    go_wp2_with fail
    refine (Put_any p a slot v S s _ HA6.out Hv.out).mono ?_
    rw [Hx.out]
    have E := Lib.hid (show slotE (some x) slot = if slot < 0 ∨ slot ≥ x.vs.length then 1 else 0 from rfl)
    rintro e w7 ⟨rfl, hA7, hf7⟩
    have HA7 := Lib.hid hA7
    have HF7 := Lib.hid (HF6.out.trans (U := fun _ => False) hf7 (fun _ h => h) (fun i hi h => by have := HA.out.2 i h; omega))
    have Hw7 := Lib.hid (hf7.row Hw.out.1 (fun k hk h => by have := Hw.out.2 k hk; have := HA3.out.lt h; omega))
    clear hA7 hf7
    go_wp2_with fail
    refine (Bytes_any p S _ _ HA7.out).mono ?_
    rintro e w8 ⟨vn, rfl, hn, hf8, hn8⟩
    have HF8 := Lib.hid (HF7.out.trans hf8 (fun _ h => h) (fun _ _ h => h))
    have htp : tot (s.put a slot v).used = tot s.used := by
      unfold AS.put; split
      · exact tot_setOb _ _ _ _ _
      · rfl
    rw [List.length_map, encs_length, htp] at hn
    obtain ⟨an, cn, rfl⟩ := row_form hn
    have Hn8 := Lib.hid hn
    have Hw8 := Lib.hid (hf8.row Hw7.out (fun _ _ h => h))
    clear hn hf8 hn8 htp
    by_cases hbad : slot < 0 ∨ slot ≥ x.vs.length
    · have hs2 : s.put a slot v = s := by unfold AS.put; rw [Hx.out, E.out, if_pos hbad]; rfl
      have k1 := conv_row Hw8.out
      have k2 := conv_row Hn8.out
      rw [hs2] at k2
      rw [E.out, if_pos hbad]
      obtain ⟨T, hT⟩ : ∃ T, T = strOfNums (encs s.used) := ⟨_, rfl⟩
      rw [← hT] at k1 k2
      clear hT hs2
      rcases Classical.em (slot < 0) with h0 | h0
      · clear hbad
        go_wp2
        go_ret
        exact ⟨rfl, HF8.out⟩
      · have h3 : slot ≥ x.vs.length := hbad.elim (fun h => absurd h h0) id
        clear hbad
        go_wp2
        go_ret
        exact ⟨rfl, HF8.out⟩
    · have s0 : 0 ≤ slot := by omega
      have s1 : slot < x.vs.length := by omega
      have hs2 : s.put a slot v = { s with used := setOb 0 s.used a slot.toNat v } := by unfold AS.put; rw [Hx.out, E.out, if_neg hbad]; rfl
      have he2 := (encs_setOb s.used 0 a slot.toNat v x Hx.out (by omega)).2
      rw [show a.toNat + 8 + 8 * slot.toNat - 0 = (a + 8 + 8 * slot).toNat from by omega] at he2
      obtain ⟨q, hq⟩ := Int.eq_ofNat_of_zero_le (show 0 ≤ a + 8 + 8 * slot by omega)
      rw [hq, Int.toNat_natCast] at he2
      have hql : q + 8 ≤ (encs s.used).length := by rw [encs_length]; omega
      have hn9 := Hn8.out
      rw [hs2] at hn9
      simp only [he2] at hn9
      obtain ⟨g1, cap1', _, e1, _, hc1, hm1⟩ := row_addr Hw8.out (by omega)
      obtain ⟨g2, cap2', _, e2, _, hc2, hm2⟩ := row_addr hn9 (by omega)
      simp only [Value.slice.injEq, true_and] at e1 e2
      obtain ⟨rfl, rfl⟩ := e1
      obtain ⟨rfl, rfl⟩ := e2
      rw [E.out, if_neg hbad]
      have N := Lib.hid (lawNumber_any (q : Int) _ (put8 (encs s.used) q v) v w8 (by rw [put8_length _ _ _ hql, encs_length]; exact hn9) (by omega) Hv.out (put8_mid _ _ _ hql))
      have k1 := fun k => conv_front (w := w8.drewN k) Hw8.out q (by rw [encs_length] at hql; omega)
      have k2 := fun k => conv_front (w := w8.drewN k) hn9 q (by rw [encs_length] at hql; omega)
      have k3 := fun k => conv_back (w := w8.drewN k) Hw8.out (q + 8) (by rw [encs_length] at hql; omega)
      have k4 := fun k => conv_back (w := w8.drewN k) hn9 (q + 8) (by rw [encs_length] at hql; omega)
      rw [put8_take _ _ _ hql] at k2
      rw [put8_drop _ _ _ hql] at k4
      obtain ⟨T1, hT1⟩ : ∃ T, T = strOfNums ((encs s.used).take q) := ⟨_, rfl⟩
      obtain ⟨T2, hT2⟩ : ∃ T, T = strOfNums ((encs s.used).drop (q + 8)) := ⟨_, rfl⟩
      rw [← hT1] at k1 k2
      rw [← hT2] at k3 k4
      have hql2 : q + 8 ≤ tot s.used := by rw [encs_length] at hql; exact hql
      have Hq := Lib.hid hq
      simp only [maxLen] at hm1 hm2
      clear hT1 hT2 hq he2 hql hn9 hs2 hbad
      go_wp2_with fail
      rw [Hq.out]
      refine N.out.mono ?_
      rintro e w9 ⟨rfl, rfl⟩
      go_wp2_with fail
      go_quiet (fail)
      have Hfin := Lib.hid (fun k => HF8.out.trans (Fr.drewN (fun _ => False) _ k) (fun _ h => h) (fun _ _ h => h))
      go_wp2
      all_goals (go_ret; exact ⟨rfl, Hfin.out _⟩)
end Go.Proofs.Ytniifefmjdjebaa
