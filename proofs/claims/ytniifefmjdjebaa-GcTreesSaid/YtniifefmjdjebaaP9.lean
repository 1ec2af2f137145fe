/- Walk: GcRounds. -/
import Derived.Test.YtniifefmjdjebaaP8
import Derived.Test.YtniifefmjdjebaaP2
import Derived.Deep.LoopGhost
namespace Go.Proofs.Ytniifefmjdjebaa
open Go.RowKit
set_option linter.unusedVariables false
set_option linter.unusedSimpArgs false
/-- One arena; a row of numbers beside it; what was there in wb stands, but for the blocks B. -/
structure T1 (w0 wb : World) (B : Nat → Prop) (w : World) (p : Nat) (S : Nat → Prop) (s : AS) (u : Value) (xs : List Int) : Prop where
  a : IsArena w p S s
  fr : Fr (fun _ => False) w0 w
  new : ∀ k, S k → w0.heap.size ≤ k
  fb : Fr B wb w
  sub : ∀ k, S k → B k ∨ wb.heap.size ≤ k
  row : w.ownsRow 0 2 1 u xs.length (xs.map (Value.int .i64))
  far : ∀ k, u.ownBlock = some k → ¬ S k ∧ wb.heap.size ≤ k ∧ w0.heap.size ≤ k
section
variable {w0 wb w w' : World} {B : Nat → Prop} {p : Nat} {S S' : Nat → Prop} {s s' : AS} {u u' : Value} {xs ys : List Int}
theorem T1.kept (h : T1 w0 wb B w p S s u xs) (hf : Fr (fun _ => False) w w') : T1 w0 wb B w' p S s u xs :=
  ⟨h.a.keep hf (fun _ _ h => h), h.fr.trans hf (fun _ h => h) (fun _ _ h => h), h.new, h.fb.trans hf (fun _ h => h) (fun _ _ h => h.elim), h.sub, hf.row h.row (fun _ _ h => h), h.far⟩
theorem T1.drewN (h : T1 w0 wb B w p S s u xs) (n : Nat) : T1 w0 wb B (w.drewN n) p S s u xs := h.kept (Fr.drewN _ w n)
theorem T1.put (h : T1 w0 wb B w p S s u xs) (h1 : IsArena w' p S s') (h2 : Fr S w w') : T1 w0 wb B w' p S s' u xs :=
  ⟨h1, h.fr.trans h2 (fun _ h => h) (fun i hi hs => by have := h.new i hs; omega), h.new, h.fb.trans h2 (fun _ h => h) (fun i hi hs => (h.sub i hs).elim id (fun h => by omega)), h.sub, h2.row h.row (fun k hk => (h.far k hk).1), h.far⟩
theorem T1.turned (h : T1 w0 wb B w p S s u xs) (h1 : IsArena w' p S' s') (h2 : Fr S w w') (h3 : ∀ k, S' k → S k ∨ w.heap.size ≤ k) : T1 w0 wb B w' p S' s' u xs := by
  refine ⟨h1, h.fr.trans h2 (fun _ h => h) (fun i hi hs => by have := h.new i hs; omega), fun k hk => ?_, h.fb.trans h2 (fun _ h => h) (fun i hi hs => (h.sub i hs).elim id (fun h => by omega)), fun k hk => ?_, h2.row h.row (fun k hk => (h.far k hk).1), fun k hk => ⟨fun e => ?_, (h.far k hk).2⟩⟩
  · rcases h3 k hk with h4 | h4
    · exact h.new k h4
    · have := h.fr.size; omega
  · rcases h3 k hk with h4 | h4
    · exact h.sub k h4
    · have := h.fb.size; right; omega
  · rcases h3 k e with h4 | h4
    · exact (h.far k hk).1 h4
    · have := row_lt h.row hk; omega
theorem T1.turn (h : T1 w0 wb B w p S s u xs) (ht : Turned w w' p S s') : ∃ S', T1 w0 wb B w' p S' s' u xs := by
  obtain ⟨S', h1, h2, h3⟩ := ht
  exact ⟨S', h.turned h1 h2 h3⟩
/-- The row is another one, that is new. -/
theorem T1.other (h : T1 w0 wb B w p S s u xs) (hr : w.ownsRow 0 2 1 u' ys.length (ys.map (Value.int .i64))) (hf : ∀ k, u'.ownBlock = some k → ¬ S k ∧ wb.heap.size ≤ k ∧ w0.heap.size ≤ k) : T1 w0 wb B w p S s u' ys :=
  ⟨h.a, h.fr, h.new, h.fb, h.sub, hr, hf⟩
theorem T1.appended {x : Int} {o : Obj} (h : T1 w0 wb B w p S s u xs) (h1 : w'.ownsRow 0 2 1 u' (xs.length + 1) (xs.map (Value.int .i64) ++ [.int .i64 x])) (h2 : (w.alloc o).grownBy w' u.ownBlock) (h3 : u'.ownBlock = u.ownBlock ∨ u'.ownBlock = some (w.heap.size + 1)) :
    T1 w0 wb B w' p S s u' (xs ++ [x]) := by
  have hfr : Fr (fun k => u.ownBlock = some k) w w' := Fr.of_grown (grown_trans (World.grownBy_alloc w o _) h2) (fun k hk => hk)
  refine ⟨h.a.keep hfr (fun k hk e => (h.far k e).1 hk), h.fr.trans hfr (fun _ h => h) (fun i hi e => by have := (h.far i e).2.2; omega), h.new, h.fb.trans hfr (fun _ h => h) (fun i hi e => by have := (h.far i e).2.1; omega), h.sub, by rw [List.length_append, List.map_append]; exact h1, fun k hk => ?_⟩
  rcases h3 with h4 | h4
  · exact h.far k (h4 ▸ hk)
  · rw [h4] at hk
    have hk2 : w.heap.size + 1 = k := Option.some.inj hk
    have hb := h.fb.size
    have h0 := h.fr.size
    exact ⟨fun e => by have := h.a.lt e; omega, by omega, by omega⟩
end
/-- The literal Table{{0}}. -/
theorem lit_table1 (w : World) :
    TabIs ((w.alloc (.cells #[.int .i64 0] 3)).alloc (.cells #[.slice (some ⟨w.heap.size, 0, none⟩) 1 1] 22)) (.slice (some ⟨w.heap.size + 1, 0, none⟩) 1 1) [[0]] (fun k => k = w.heap.size ∨ k = w.heap.size + 1) [.slice (some ⟨w.heap.size, 0, none⟩) 1 1] ∧
      Fr (fun _ => False) w ((w.alloc (.cells #[.int .i64 0] 3)).alloc (.cells #[.slice (some ⟨w.heap.size, 0, none⟩) 1 1] 22)) := by
  have f1 := Fr.alloc (fun _ => False) w (.cells #[.int .i64 0] 3)
  have f2 := Fr.alloc (fun _ => False) (w.alloc (.cells #[.int .i64 0] 3)) (.cells #[.slice (some ⟨w.heap.size, 0, none⟩) 1 1] 22)
  have r1 := World.ownsRow_lit (base := 0) (e := 3) (size := 1) w #[.int .i64 0] 1 (Nat.zero_le _) (by unfold maxLen; omega) rfl
  have r3 := World.ownsRow_lit (base := 0) (e := 22) (size := 1) (w.alloc (.cells #[.int .i64 0] 3)) #[.slice (some ⟨w.heap.size, 0, none⟩) 1 1] 1 (Nat.zero_le _) (by unfold maxLen; omega) rfl
  simp only [World.size_alloc] at r3
  have r1' := f2.row r1 (fun _ _ h => h)
  refine ⟨⟨r3, fun i r xs hr hx => ?_, fun k hk => ?_, fun r hr k hk => ?_, by simp⟩, f1.trans f2 (fun _ h => h) (fun _ _ h => h)⟩
  · match i with
    | 0 =>
      simp at hr hx
      subst hr hx
      exact ⟨r1', fun n hn => by simp at hn; subst hn; unfold I64; omega⟩
    | i + 1 => simp at hr
  · simp [Value.ownBlock] at hk; omega
  · simp at hr
    subst hr
    simp [Value.ownBlock] at hk; omega
set_option maxRecDepth 100000 in
set_option maxHeartbeats 8000000 in
theorem GcRounds_any (n rounds v : Int) (w : World) (hn : I64 n) (hr : I64 rounds) (hv : I64 v) :
    Calls Try.prog 13 #[.int .i64 n, .int .i64 rounds, .int .i64 v] w fun e w' => e = .returned (.bool true) ∧ Fr (fun _ => False) w w' := by
  obtain ⟨i2, hi2, hz2, hs2, hb2⟩ := info_parts info2
  have HI := Lib.hid (And.intro hn (And.intro hr hv))
  have hm0 := Int.emod_nonneg n (show (20 : Int) ≠ 0 by omega)
  have hm1 := Int.emod_lt_of_pos n (show (0 : Int) < 20 by omega)
  have hr0 := Int.emod_nonneg rounds (show (30 : Int) ≠ 0 by omega)
  have hr1 := Int.emod_lt_of_pos rounds (show (0 : Int) < 30 by omega)
  obtain ⟨v1, v2⟩ := hv
  clear hn hr
  go_enter Try.func13, Try.ntmps13
  go_wp2_with fail
  refine (gcKnown_any _).mono ?_
  rintro e w1 ⟨rfl, hf1⟩
  have HF1 := Lib.hid hf1; clear hf1
  go_wp2_with fail
  refine (in_any n 20 _ (by omega) (by omega) HI.out.1).mono ?_
  rintro e w2 ⟨rfl, rfl⟩
  obtain ⟨m, hm⟩ := Int.eq_ofNat_of_zero_le hm0
  rw [hm] at hm1 ⊢
  clear hm hm0
  go_wp2_with fail
  refine (in_any rounds 30 _ (by omega) (by omega) HI.out.2.1).mono ?_
  rintro e w3 ⟨rfl, rfl⟩
  obtain ⟨r, hr⟩ := Int.eq_ofNat_of_zero_le hr0
  rw [hr] at hr1 ⊢
  clear hr hr0
  go_wp2_with fail
  refine (New_any 4096 _ (by omega) (by omega)).mono ?_
  rintro e w4 ⟨p, S, rfl, q1, q2, q3⟩
  have H4 := Lib.hid (And.intro q1 (And.intro q2 q3))
  clear q1 q2 q3
  go_wp2_with fail
  have hl := lit_table1 w4
  obtain ⟨wb, hwb⟩ : ∃ wb, wb = (w4.alloc (.cells #[.int .i64 0] 3)).alloc (.cells #[.slice (some ⟨w4.heap.size, 0, none⟩) 1 1] 22) := ⟨_, rfl⟩
  rw [← hwb] at hl ⊢
  have hT : T1 w3 wb S wb p S ⟨rbase v 0, [], fun _ => none, 4096⟩ (.slice none 0 0) [] :=
    ⟨H4.out.1.keep hl.2 (fun _ _ h => h), H4.out.2.1.trans hl.2 (fun _ h => h) (fun _ _ h => h), H4.out.2.2, Fr.refl _ _, fun _ h => .inl h, World.ownsRow_nil _ _ _ _, by simp [Value.ownBlock]⟩
  have HT0 := Lib.hid hT
  have HTab := Lib.hid (And.intro hl.1 (show ∀ k, (k = w4.heap.size ∨ k = w4.heap.size + 1) → ¬ S k from fun k hk e => by have := H4.out.1.lt e; omega))
  clear hl hT hwb
  obtain ⟨tb, htb⟩ : ∃ tb, tb = w4.heap.size + 1 := ⟨_, rfl⟩
  rw [← htb] at HTab ⊢
  clear htb
  go_loopw [10, 11] (fun u x11 wr => ∃ (i : Nat) (S' : Nat → Prop), i ≤ m + 1 ∧ x11 = .int .i64 i ∧ T1 w3 wb S wr p S' ⟨rbase v i, [], fun _ => none, 4096⟩ u (rroots i)) (fun _ x11 _ => (m + 1 - intOf x11).toNat)
  case atStart => exact ⟨0, S, by omega, rfl, HT0.out⟩
  case round =>
    obtain ⟨i, S1, hi, rfl, ht⟩ := hrel
    have HW := Lib.hid ht; clear ht
    have hrow := HW.out.row
    rw [rroots_length] at hrow
    obtain ⟨au, cu, rfl⟩ := row_form hrow
    have Hrow := Lib.hid hrow
    clear hrow
    by_cases hlt : i < m + 1
    · have hmk := make_room ⟨rbase v i, [], fun _ => none, 4096⟩ 0 2 (by omega) (by omega) (by simp only [rbase_tot]; omega)
      simp only [rbase_tot] at hmk
      have HMk := Lib.hid hmk
      have hp1 := put_last (rbase v i) 0 [0, 0] [] (fun _ => none) 4096 1 (wrap64 (v + i)) (by omega) (by simp)
      have hp2 := put_last (rbase v i) 0 [0, wrap64 (v + i)] [] (fun _ => none) 4096 0 (32 * ((i : Int) - 1) + 8) (by omega) (by simp)
      rw [rbase_tot] at hp1 hp2
      have HP := Lib.hid (And.intro hp1 hp2)
      clear hmk hp1 hp2
      go_wp2_with fail
      refine (Make_any p 0 2 S1 _ _ HW.out.a (by unfold I64; omega)).mono ?_
      rw [HMk.out.1, HMk.out.2.1, HMk.out.2.2]
      rintro e w5 ⟨rfl, q1⟩
      obtain ⟨S2, h5⟩ := HW.out.turn q1
      have H5 := Lib.hid h5
      clear q1 h5
      go_wp2_with fail
      have hw64 : I64 (wrap64 (v + i)) := by unfold I64 wrap64; omega
      obtain ⟨e1, he1⟩ : ∃ e1, e1 = slotE (findOb 0 (AS.used ⟨rbase v i ++ [⟨0, List.replicate (2 : Int).toNat 0⟩], [], fun _ => none, 4096⟩) (32 * (i : Int) + 8)) 1 := ⟨_, rfl⟩
      refine (Put_any p (32 * (i : Int) + 8) 1 (wrap64 (v + i)) S2 _ _ H5.out.a hw64).mono ?_
      rw [← he1]
      clear he1 hw64
      rintro e w6 ⟨rfl, q1, q2⟩
      have h6 := H5.out.put q1 q2
      rw [show (⟨rbase v i ++ [⟨0, List.replicate (2 : Int).toNat 0⟩], [], fun _ => none, 4096⟩ : AS).put (32 * (i : Int) + 8) 1 (wrap64 (v + i)) = ⟨rbase v i ++ [⟨0, [0, wrap64 (v + i)]⟩], [], fun _ => none, 4096⟩ from HP.out.1] at h6
      have H6 := Lib.hid h6
      clear q1 q2 h6
      by_cases hi0 : i = 0
      · have H7 := Lib.hid (show T1 w3 wb S w6 p S2 ⟨rbase v (i + 1), [], fun _ => none, 4096⟩ (.slice au i cu) (rroots i) from by
          rw [rbase_succ]; unfold rob; rw [if_pos hi0]; exact H6.out)
        have hrow7 := H7.out.row
        rw [rroots_length] at hrow7
        have Hr7 := Lib.hid hrow7
        have hb : ¬ (0 : Int) < (i : Int) := by omega
        clear hrow7 hi0
        go_wp2_with (first | (at_builtin; refine wpList_append_own_at _ rfl _ _ 38 rfl 0 2 i2 (.int .i64 0) 1 8 und38 hi2 hz2 hs2 hb2 rfl (by decide) _ _ _ rfl (Hr7.out.alloc _) ⟨w6.heap.size, 0, none⟩ 1 1 [.int .i64 (32 * (i : Int) + 8)] rfl rfl (fun j u hu => cell_one_new _ _ _ j u hu) (by intro u hu; simp at hu; subst hu; rfl) (by unfold maxLen; omega) (by omega) (Nat.zero_le _) ?_))
        intro v8 w8 hown hgr _ hloc
        have H8 := Lib.hid (H7.out.appended (by rw [rroots_length]; exact hown) hgr (by simpa using hloc))
        rw [← rroots_succ] at H8
        clear hown hgr hloc
        go_wp2
        go_roundw
        case rel => exact ⟨i + 1, S2, by omega, by go_num, H8.out⟩
        case measure => simp [intOf]; omega
      · have hrow6 := H6.out.row
        rw [rroots_length] at hrow6
        obtain ⟨g, d, _, eg, _, _, _⟩ := row_addr hrow6 (by omega)
        simp only [Value.slice.injEq, true_and] at eg
        obtain ⟨rfl, rfl⟩ := eg
        have hcell := row_int hrow6 (j := i - 1) (by omega)
        rw [rroots_at (by omega)] at hcell
        have hidx : (i : Int) - 1 = ((i - 1 : Nat) : Int) := by omega
        have hb : (0 : Int) < (i : Int) := by omega
        obtain ⟨pv, hpv⟩ : ∃ pv, pv = 32 * ((i - 1 : Nat) : Int) + 8 := ⟨_, rfl⟩
        have Hpv := Lib.hid (show pv = 32 * ((i : Int) - 1) + 8 from by rw [hpv]; omega)
        have hpI : I64 pv := by unfold I64; omega
        have HpI := Lib.hid hpI
        rw [← hpv] at hcell
        obtain ⟨k1, hk1⟩ : ∃ k1 : Nat, k1 = i - 1 := ⟨_, rfl⟩
        rw [← hk1] at hcell hidx
        have hk1l : k1 < i := by omega
        clear hrow6 hpv hpI hk1
        go_wp2_with fail
        obtain ⟨e1, he1⟩ : ∃ e1, e1 = slotE (findOb 0 (AS.used ⟨rbase v i ++ [⟨0, [0, wrap64 (v + i)]⟩], [], fun _ => none, 4096⟩) (32 * (i : Int) + 8)) 0 := ⟨_, rfl⟩
        refine (Put_any p (32 * (i : Int) + 8) 0 pv S2 _ _ H6.out.a HpI.out).mono ?_
        rw [← he1]
        clear he1
        rintro e w7 ⟨rfl, q1, q2⟩
        have h7 := H6.out.put q1 q2
        rw [Hpv.out, show (⟨rbase v i ++ [⟨0, [0, wrap64 (v + i)]⟩], [], fun _ => none, 4096⟩ : AS).put (32 * (i : Int) + 8) 0 (32 * ((i : Int) - 1) + 8) = ⟨rbase v i ++ [⟨0, [32 * ((i : Int) - 1) + 8, wrap64 (v + i)]⟩], [], fun _ => none, 4096⟩ from HP.out.2] at h7
        have H7 := Lib.hid (show T1 w3 wb S w7 p S2 ⟨rbase v (i + 1), [], fun _ => none, 4096⟩ (.slice (some ⟨g, 0, none⟩) i cu) (rroots i) from by
          rw [rbase_succ]; unfold rob; rw [if_neg hi0]; exact h7)
        have hrow7 := H7.out.row
        rw [rroots_length] at hrow7
        have Hr7 := Lib.hid hrow7
        clear hrow7 h7 q1 q2 hcell hidx
        go_wp2_with (first | (at_builtin; refine wpList_append_own_at _ rfl _ _ 38 rfl 0 2 i2 (.int .i64 0) 1 8 und38 hi2 hz2 hs2 hb2 rfl (by decide) _ _ _ rfl (Hr7.out.alloc _) ⟨w7.heap.size, 0, none⟩ 1 1 [.int .i64 (32 * (i : Int) + 8)] rfl rfl (fun j u hu => cell_one_new _ _ _ j u hu) (by intro u hu; simp at hu; subst hu; rfl) (by unfold maxLen; omega) (by omega) (Nat.zero_le _) ?_))
        intro v8 w8 hown hgr _ hloc
        have H8 := Lib.hid (H7.out.appended (by rw [rroots_length]; exact hown) hgr (by simpa using hloc))
        rw [← rroots_succ] at H8
        clear hown hgr hloc
        go_wp2
        go_roundw
        case rel => exact ⟨i + 1, S2, by omega, by go_num, H8.out⟩
        case measure => simp [intOf]; omega
    · have him : i = m + 1 := by omega
      have HIm := Lib.hid him
      have hi21 : i ≤ 20 := by omega
      clear him
      have HW2 := Lib.hid (show ∃ J, (⟨rbase v i, [], fun _ => none, 4096⟩ : AS).used = rbase v i ++ J from ⟨[], by simp⟩)
      obtain ⟨st, hst⟩ : ∃ st, st = (⟨rbase v i, [], fun _ => none, 4096⟩ : AS) := ⟨_, rfl⟩
      have hse : st.semi = 4096 := by rw [hst]
      rw [← hst] at HW HW2
      have HSe := Lib.hid hse
      clear hst hse Hrow
      go_wp2_with fail
      go_loopw [10, 14] (fun u x14 wr => ∃ (k : Nat) (S' : Nat → Prop) (st : AS), k ≤ r ∧ x14 = .int .i64 k ∧ T1 w3 wb S wr p S' st u (rroots i) ∧ (∃ J, st.used = rbase v i ++ J) ∧ st.semi = 4096) (fun _ x14 _ => (r - intOf x14).toNat)
      case atStart => exact ⟨0, S1, st, by omega, rfl, HW.out, HW2.out, HSe.out⟩
      case round =>
        clear HW HW2 HSe
        obtain ⟨k, S2, st2, hk, rfl, ht, hJ, hse⟩ := hrel
        have HW := Lib.hid (And.intro ht (And.intro hJ hse))
        clear ht hJ hse
        have hrow := HW.out.1.row
        rw [rroots_length] at hrow
        obtain ⟨au, cu, rfl⟩ := row_form hrow
        clear hrow
        by_cases hkr : k < r
        · go_wp2_with fail
          go_loopg [] 4096 (fun gk wr => ∃ (S' : Nat → Prop) (st : AS), T1 w3 wb S wr p S' st (.slice au i cu) (rroots i) ∧ (∃ J, st.used = rbase v i ++ J) ∧ st.semi = 4096 ∧ 4096 - tot st.used ≤ gk)
          case atStart => exact ⟨S2, st2, HW.out.1, HW.out.2.1, HW.out.2.2, by omega⟩
          case round =>
            clear HW
            obtain ⟨S3, st3, ht, hJ, hse, hgk⟩ := hrel
            have HW := Lib.hid (And.intro ht (And.intro hJ hse))
            have HGk := Lib.hid hgk
            clear ht hJ hse hgk
            go_wp2_with fail
            refine (room_any p 3 S3 st3 _ HW.out.1.a).mono ?_
            by_cases hrm : 16 + 8 * (3 : Int) ≤ st3.semi - tot st3.used
            · rw [roomB_true ⟨by omega, by omega, hrm⟩]
              have hmk := make_room st3 5 3 (by omega) (by omega) hrm
              have HMk := Lib.hid hmk
              have HRm := Lib.hid hrm
              clear hmk hrm
              rintro e w5 ⟨rfl, nd, hw5⟩
              have H5 := Lib.hid (show T1 w3 wb S w5 p S3 st3 (.slice au i cu) (rroots i) from by rw [hw5]; exact HW.out.1.drewN nd)
              clear hw5
              go_wp2_with fail
              refine (Make_any p 5 3 S3 _ _ H5.out.a (by unfold I64; omega)).mono ?_
              rw [HMk.out.1, HMk.out.2.1, HMk.out.2.2]
              obtain ⟨z1, hz1⟩ : ∃ z1, z1 = (tot st3.used : Int) + 8 := ⟨_, rfl⟩
              rw [← hz1]
              clear hz1
              rintro e w6 ⟨rfl, q1⟩
              obtain ⟨S4, h6⟩ := H5.out.turn q1
              have H6 := Lib.hid h6
              have HJ6 := Lib.hid (show ∃ J, st3.used ++ [⟨5, List.replicate (3 : Int).toNat 0⟩] = rbase v i ++ J from by
                obtain ⟨J, hJ⟩ := HW.out.2.1
                exact ⟨J ++ [⟨5, List.replicate (3 : Int).toNat 0⟩], by rw [hJ, List.append_assoc]⟩)
              have htt : tot (st3.used ++ [⟨5, List.replicate (3 : Int).toNat 0⟩]) = tot st3.used + 40 := by rw [tot_append, tot_cons, tot_nil]; rfl
              have hgk2 : 1 ≤ gk ∧ 4096 - (tot st3.used + 40) ≤ gk - 1 := by
                have h7 := HGk.out
                have h8 := HRm.out
                rw [HW.out.2.2] at h8
                omega
              have HTt := Lib.hid (And.intro htt hgk2.2)
              have hg1 := hgk2.1
              clear q1 h6 htt hgk2
              go_wp2
              go_roundg (gk - 1)
              case measure => omega
              case rel => exact ⟨S4, _, H6.out, HJ6.out, HW.out.2.2, by rw [HTt.out.1]; exact HTt.out.2⟩
            · rw [roomB_false (fun h => hrm h.2.2)]
              clear hrm
              rintro e w5 ⟨rfl, nd, hw5⟩
              have H5 := Lib.hid (show T1 w3 wb S w5 p S3 st3 (.slice au i cu) (rroots i) from by rw [hw5]; exact HW.out.1.drewN nd)
              clear hw5
              obtain ⟨J, hJ⟩ := HW.out.2.1
              have hkp := rround_keeps st3 v i J hJ
              have HKp := Lib.hid hkp
              have HRl := Lib.hid (rroots_length i)
              clear hkp hJ
              go_wp2_with fail
              refine (Collect_ok p _ _ _ _ (rroots i) S3 st3 [[0]] _ _ _ H5.out.a H5.out.row HKp.out.1 (HTab.out.1.tight.keep H5.out.fb (fun k hk => HTab.out.2 k hk.1)) (fun k hk e => ?kd) (fun k hk => (H5.out.far k hk).1) (by rw [HRl.out]; omega)).mono ?_
              case kd =>
                rcases H5.out.sub k e with h | h
                · exact HTab.out.2 k hk.1 h
                · have := hk.2; omega
              rintro e w6 ⟨nv, rfl, q1, q2, S4, q3, q4, q5, q6⟩
              have hsz := H5.out.fb.size
              have hsz0 := H5.out.fr.size
              have H6 := Lib.hid (show T1 w3 wb S w6 p S4 (collectS st3 [[0]] (rroots i)) nv (rroots i) from
                (H5.out.turned q3 q4 q5).other (by rw [HKp.out.2.2] at q1; exact q1) (fun k hk => ⟨q6 k hk, by have := q2 k hk; omega, by have := q2 k hk; omega⟩))
              obtain ⟨st4, hst4⟩ : ∃ st4, st4 = collectS st3 [[0]] (rroots i) := ⟨_, rfl⟩
              have hu4 : st4.used = rbase v i ∧ st4.semi = 4096 := by rw [hst4]; exact ⟨HKp.out.2.1, HW.out.2.2⟩
              rw [← hst4] at H6
              have HU4 := Lib.hid hu4
              have hrow6 := H6.out.row
              rw [HRl.out] at hrow6
              obtain ⟨a6, c6, rfl⟩ := row_form hrow6
              have htt : ((tot st4.used : Nat) : Int) = 32 * (1 + (m : Int)) := by rw [hu4.1, rbase_tot, HIm.out]; omega
              have HTt := Lib.hid htt
              clear q1 q2 q3 q4 q5 q6 hst4 hu4 hrow6 htt hsz hsz0
              have hl1 : ((i : Int) == 1 + (m : Int)) = true := by rw [beq_iff_eq]; omega
              have hl2 : ((i : Int) != 1 + (m : Int)) = false := by simp; omega
              go_wp2_with fail
              refine (Used_any p S4 st4 _ H6.out.a).mono ?_
              rw [HTt.out]
              rintro e w7 ⟨rfl, rfl⟩
              go_wp2
              go_roundw
              case rel => exact ⟨k + 1, S4, st4, by omega, by go_num, H6.out, ⟨[], by rw [HU4.out.1, List.append_nil]⟩, HU4.out.2⟩
              case measure => simp [intOf]; omega
        · have HRl := Lib.hid (rroots_length i)
          have HFin := Lib.hid HW.out
          go_wp2_with fail
          go_loopw [17] (fun x17 wz => ∃ (j : Nat), j ≤ i ∧ x17 = .int .i64 j ∧ T1 w3 wb S wz p S2 st2 (.slice au i cu) (rroots i)) (fun x17 _ => (i - intOf x17).toNat)
          case atStart => exact ⟨0, by omega, rfl, HFin.out.1⟩
          case round =>
            obtain ⟨j, hj, rfl, hwz⟩ := hrel
            have HZ := Lib.hid hwz
            clear hwz
            by_cases hjl : j < i
            · have hrow := HZ.out.row
              rw [HRl.out] at hrow
              obtain ⟨g, d, _, eg, _, _, _⟩ := row_addr hrow (by omega)
              simp only [Value.slice.injEq, true_and] at eg
              obtain ⟨rfl, rfl⟩ := eg
              have hcell := row_int hrow hjl
              rw [rroots_at hjl] at hcell
              obtain ⟨ad, had⟩ : ∃ ad, ad = 32 * (j : Int) + 8 := ⟨_, rfl⟩
              rw [← had] at hcell
              have hfd : findOb 0 st2.used ad = some (rob v j) := by
                obtain ⟨J, hJ⟩ := HFin.out.2.1
                rw [hJ, had]; exact rbase_find v J hjl
              have HFd := Lib.hid hfd
              have HRow := Lib.hid (fun nd => (show (wr.drewN nd).ownsRow 0 2 1 (.slice (some ⟨g, 0, none⟩) i cu) i ((rroots i).map (Value.int .i64)) from hrow))
              have HZd := Lib.hid (fun nd => HZ.out.drewN nd)
              clear hrow had hfd
              go_wp2_with fail
              refine (Get_any p ad 0 S2 st2 _ HZ.out.a).mono ?_
              rw [HFd.out, show slotE (some (rob v j)) 0 = 0 from by unfold slotE rob; simp]
              obtain ⟨x, hx⟩ : ∃ x, x = getV (some (rob v j)) 0 := ⟨_, rfl⟩
              rw [← hx]
              have hx1 : j = 0 → x = 0 := fun h => by rw [hx]; unfold getV rob; simp [h]
              have hx2 : ¬ j = 0 → x = 32 * ((j : Int) - 1) + 8 := fun h => by rw [hx]; unfold getV rob; simp [h]
              have HX := Lib.hid (And.intro hx1 hx2)
              clear hx hx1 hx2
              rintro e w5 ⟨rfl, nd5, hw5⟩
              have H5 := Lib.hid (show T1 w3 wb S w5 p S2 st2 (.slice (some ⟨g, 0, none⟩) i cu) (rroots i) from by rw [hw5]; exact HZ.out.drewN nd5)
              have hrow5 := H5.out.row
              rw [HRl.out] at hrow5
              have hcell := row_int hrow5 hjl
              rw [rroots_at hjl] at hcell
              have HFd2 := Lib.hid (show findOb 0 st2.used (32 * (j : Int) + 8) = some (rob v j) from by
                obtain ⟨J, hJ⟩ := HFin.out.2.1
                rw [hJ]; exact rbase_find v J hjl)
              obtain ⟨ad2, had2⟩ : ∃ ad2, ad2 = 32 * (j : Int) + 8 := ⟨_, rfl⟩
              rw [← had2] at hcell HFd2
              clear hw5 hrow5 had2
              go_wp2_with fail
              refine (Get_any p ad2 1 S2 st2 _ H5.out.a).mono ?_
              rw [HFd2.out, show slotE (some (rob v j)) 1 = 0 from by unfold slotE rob; simp, show getV (some (rob v j)) 1 = wrap64 (v + j) from by unfold getV rob; simp]
              rintro e w6 ⟨rfl, nd6, hw6⟩
              have H6 := Lib.hid (show T1 w3 wb S w6 p S2 st2 (.slice (some ⟨g, 0, none⟩) i cu) (rroots i) from by rw [hw6]; exact H5.out.drewN nd6)
              have hrow6 := H6.out.row
              rw [HRl.out] at hrow6
              clear hw6 hcell
              by_cases hj0 : j = 0
              · have hx0 := HX.out.1 hj0
                subst hx0
                have hb1 : ¬ (0 : Int) < (j : Int) := by omega
                have hb2 : ((j : Int) == 0) = true := by rw [beq_iff_eq]; omega
                have hwr : wrap64 (v + (j : Int)) = v + (j : Int) := by unfold wrap64; omega
                rw [hwr]
                clear hj0 hrow6 hwr
                go_wp2
                go_roundw
                case rel => exact ⟨j + 1, by omega, by go_num, H6.out⟩
                case measure => simp [intOf]; omega
              · have hx0 := HX.out.2 hj0
                have hb1 : (0 : Int) < (j : Int) := by omega
                have hb2 : ((j : Int) == 0) = false := by simp; omega
                have hcell := row_int hrow6 (j := j - 1) (by omega)
                rw [rroots_at (by omega), show 32 * ((j - 1 : Nat) : Int) + 8 = x from by rw [hx0]; omega] at hcell
                obtain ⟨k1, hk1⟩ : ∃ k1 : Nat, k1 = j - 1 := ⟨_, rfl⟩
                have hidx : (j : Int) - 1 = (k1 : Int) := by omega
                rw [← hk1] at hcell
                have hk1l : k1 < i := by omega
                clear hk1 hrow6 hx0 hj0
                go_wp2
                go_roundw
                case rel => exact ⟨j + 1, by omega, by go_num, H6.out⟩
                case measure => simp [intOf]; omega
            · go_wp2
              go_ret
              exact ⟨rfl, HF1.out.trans HZ.out.fr (fun _ h => h) (fun _ _ h => h)⟩
end Go.Proofs.Ytniifefmjdjebaa
