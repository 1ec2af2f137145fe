/- Walk: GcCollects. -/
import Derived.Test.YtniifefmjdjebaaP1
import Derived.Test.YtniifefmjdjebaaKK
import Derived.Test.YtniifefmjdjebaaP3
namespace Go.Proofs.Ytniifefmjdjebaa
open Go.RowKit
set_option linter.unusedVariables false
set_option linter.unusedSimpArgs false
theorem TabIs.tight {w : World} {v : Value} {T : List (List Int)} {D : Nat → Prop} {rs : List Value} (h : TabIs w v T D rs) : TabIs w v T (fun k => D k ∧ k < w.heap.size) rs := by
  refine ⟨h.row, h.rows, fun k hk => ⟨h.inD k hk, row_lt h.row hk⟩, fun r hr k hk => ⟨h.inR r hr k hk, ?_⟩, h.small⟩
  obtain ⟨i, hi⟩ := List.mem_iff_getElem?.1 hr
  have hlt : i < T.length := by rw [← h.len]; exact (List.getElem?_eq_some_iff.1 hi).1
  exact row_lt (h.rows i r _ hi (List.getElem?_eq_getElem hlt)).1 hk
theorem TabIs.mono {w : World} {v : Value} {T : List (List Int)} {D D' : Nat → Prop} {rs : List Value} (h : TabIs w v T D rs) (hd : ∀ k, D k → D' k) : TabIs w v T D' rs :=
  ⟨h.row, h.rows, fun k hk => hd k (h.inD k hk), fun r hr k hk => hd k (h.inR r hr k hk), h.small⟩
theorem sameW_self (xs : List Int) : sameW xs xs = true := decide_eq_true rfl
set_option maxRecDepth 100000 in
set_option maxHeartbeats 8000000 in
theorem GcCollects_any (a0 : Option Addr) (n0 c0 : Nat) (o : Nat → ObjD) (a1 : Option Addr) (n1 c1 : Nat) (A : Nat → Option Addr) (L C : Nat → Nat) (z : Nat → Nat → Int) (a2 : Option Addr) (n2 c2 : Nat) (y2 : Nat → Int) (w : World)
    (h0 : ObjsIn w a0 n0 o) (h1 : TabIn w a1 n1 A L C z) (h2 : IntsIn w a2 n2 y2) :
    Calls Try.prog 17 #[.slice a0 n0 c0, .slice a1 n1 c1, .slice a2 n2 c2] w fun e w' => e = .returned (.bool true) ∧ Fr (fun _ => False) w w' := by
  obtain ⟨i2, hi2, hz2, hs2, hb2⟩ := info_parts info2
  have HI := Lib.hid (And.intro h0 (And.intro h1 h2)); clear h0 h1 h2
  go_enter Try.func17, Try.ntmps17
  go_wp2_with fail
  refine (gcKnown_any _).mono ?_
  rintro e w1 ⟨rfl, hf1⟩
  have HF1 := Lib.hid hf1; clear hf1
  go_wp2_with fail
  refine (made16_any a0 n0 c0 o _ (HI.out.1.keep HF1.out)).mono ?_
  rintro e w2 ⟨p, S, q, R, rfl, htwo⟩
  obtain ⟨s, hs⟩ : ∃ s, s = madeX n0 o := ⟨_, rfl⟩
  rw [← hs] at htwo
  have HT := Lib.hid htwo
  clear htwo hs
  go_wp2_with fail
  refine (table_any a1 n1 c1 A L C z _ (HI.out.2.1.keep (HF1.out.trans HT.out.fr (fun _ h => h) (fun _ _ h => h)))).mono ?_
  rintro e w3 ⟨tv, rs, rfl, q1, q2⟩
  obtain ⟨T, hT⟩ : ∃ T, T = tabT n1 L z := ⟨_, rfl⟩
  rw [← hT] at q1
  obtain ⟨at_, ct, rfl⟩ := row_form q1.row
  have H3 := Lib.hid (And.intro q1 q2)
  clear q1 q2 hT
  obtain ⟨lt, hlt⟩ : ∃ lt, lt = T.length := ⟨_, rfl⟩
  rw [← hlt] at H3 ⊢
  clear hlt
  go_wp2_with fail
  refine (roots_any q R s a2 n2 c2 y2 _ (HT.out.r.keep H3.out.2 (fun _ _ h => h)) HT.out.a.good (HI.out.2.2.keep ((HF1.out.trans HT.out.fr (fun _ h => h) (fun _ _ h => h)).trans H3.out.2 (fun _ h => h) (fun _ _ h => h)))).mono ?_
  rintro e w4 ⟨rv, rfl, q1, q2, q3⟩
  have hl4 : (rootsOf (addrs 0 s.used) n2 y2).length ≤ 20 := by unfold rootsOf; rw [rootsK_length]; omega
  obtain ⟨rts, hrts⟩ : ∃ rts, rts = rootsOf (addrs 0 s.used) n2 y2 := ⟨_, rfl⟩
  rw [← hrts] at q1 hl4
  rw [List.length_map] at q1
  obtain ⟨ar, cr, rfl⟩ := row_form q1
  obtain ⟨nr, hnr⟩ : ∃ nr, nr = rts.length := ⟨_, rfl⟩
  have Hnr := Lib.hid hnr
  obtain ⟨D, hD⟩ : ∃ D : Nat → Prop, D = fun k => w2.heap.size ≤ k ∧ k < w4.heap.size := ⟨_, rfl⟩
  have HB := Lib.hid (show Two w1 w4 p S s q R s ∧ TabIs w4 (.slice at_ lt ct) T D rs ∧ w4.ownsRow 0 2 1 (.slice ar rts.length cr) rts.length (rts.map (Value.int .i64)) ∧ (∀ k, D k → ¬ S k) ∧ (∀ k, D k → ¬ R k) ∧ (∀ k, D k → k < w4.heap.size) ∧ (∀ k, (Value.slice ar rts.length cr).ownBlock = some k → ¬ S k ∧ ¬ R k) from by
    refine ⟨(HT.out.kept H3.out.2).kept q2, ?_, q1, fun k hk e => ?_, fun k hk e => ?_, fun k hk => ?_, fun k hk => ⟨fun e => ?_, fun e => ?_⟩⟩
    · rw [hD]; exact (H3.out.1.keep q2 (fun _ _ h => h)).tight
    · rw [hD] at hk; have := HT.out.a.lt e; omega
    · rw [hD] at hk; have := HT.out.r.lt e; omega
    · rw [hD] at hk; exact hk.2
    · have h7 := q3 k hk; have h8 := HT.out.a.lt e; have h9 := H3.out.2.size; omega
    · have h7 := q3 k hk; have h8 := HT.out.r.lt e; have h9 := H3.out.2.size; omega)
  rw [← hnr] at HB hl4 ⊢
  clear q1 q2 q3 hrts hnr hD
  go_wp2_with fail
  refine (Reach_any p _ _ _ _ rts S s T _ rs _ HB.out.1.a HB.out.2.1 (by rw [← Hnr.out]; exact HB.out.2.2.1)).mono ?_
  rintro e w5 ⟨pv, rfl, q1, q2, q3⟩
  have H5 := Lib.hid (And.intro q1 q2)
  clear q1 q2 q3
  go_wp2_with fail
  refine (Live_any p _ _ _ _ rts S s T _ rs _ (HB.out.1.a.keep H5.out.2 (fun _ _ h => h)) (HB.out.2.1.keep H5.out.2 (fun _ _ h => h)) (by rw [← Hnr.out]; exact H5.out.2.row HB.out.2.2.1 (fun _ _ h => h))).mono ?_
  rintro e w6 ⟨rfl, q1⟩
  have H6 := Lib.hid (show Fr (fun _ => False) w4 w6 ∧ w6.ownsRow 0 2 1 pv ((reach s T rts).map (Value.int .i64)).length ((reach s T rts).map (Value.int .i64)) from ⟨H5.out.2.trans q1 (fun _ h => h) (fun _ _ h => h), q1.row H5.out.1 (fun _ _ h => h)⟩)
  obtain ⟨nl, hnl⟩ : ∃ nl, nl = tot (objs s (reach s T rts)) := ⟨_, rfl⟩
  have Hnl := Lib.hid hnl
  rw [← hnl]
  clear q1 hnl
  go_wp2_with fail
  refine (refReach_any q _ _ rts R s T D rs _ (HB.out.1.r.keep H6.out.1 (fun _ _ h => h)) HB.out.1.a.good (HB.out.2.1.keep H6.out.1 (fun _ _ h => h)) (by rw [← Hnr.out]; exact H6.out.1.row HB.out.2.2.1 (fun _ _ h => h)) (by rw [← Hnr.out]; omega) (fun k hk => Nat.lt_of_lt_of_le (HB.out.2.2.2.2.2.1 k hk) H6.out.1.size)).mono ?_
  rintro e w7 ⟨qv, rfl, q1, q2, q3⟩
  have H7 := Lib.hid (show Fr (fun _ => False) w4 w7 ∧ w7.ownsRow 0 2 1 pv (reach s T rts).length ((reach s T rts).map (Value.int .i64)) ∧ w7.ownsRow 0 2 1 qv (reach s T rts).length ((reach s T rts).map (Value.int .i64)) from ⟨H6.out.1.trans q2 (fun _ h => h) (fun _ _ h => h), by simpa only [List.length_map] using q2.row H6.out.2 (fun _ _ h => h), by simpa only [List.length_map] using q1⟩)
  clear q1 q2 q3
  go_wp2_with fail
  refine (SameWords_any pv qv (reach s T rts) (reach s T rts) _ H7.out.2.1 H7.out.2.2).mono ?_
  rw [sameW_self]
  rintro e w8 ⟨rfl, nd, hw8⟩
  have H8 := Lib.hid (show Fr (fun _ => False) w4 w8 from by rw [hw8]; exact H7.out.1.trans (Fr.drewN _ w7 nd) (fun _ h => h) (fun _ _ h => h))
  clear hw8
  go_wp2_with fail
  refine (refLive_any q _ _ rts R s T D rs _ (HB.out.1.r.keep H8.out (fun _ _ h => h)) HB.out.1.a.good (HB.out.2.1.keep H8.out (fun _ _ h => h)) (by rw [← Hnr.out]; exact H8.out.row HB.out.2.2.1 (fun _ _ h => h)) (by rw [← Hnr.out]; omega) (fun k hk => Nat.lt_of_lt_of_le (HB.out.2.2.2.2.2.1 k hk) H8.out.size)).mono ?_
  rw [← Hnl.out]
  rintro e w9 ⟨rfl, q1⟩
  have H9 := Lib.hid (show Fr (fun _ => False) w4 w9 from H8.out.trans q1 (fun _ h => h) (fun _ _ h => h))
  clear q1
  go_wp2_with fail
  refine (Same2_any p q _ S R s (HB.out.1.a.keep H9.out (fun _ _ h => h)) (HB.out.1.r.keep H9.out (fun _ _ h => h))).mono ?_
  rintro e w10 ⟨rfl, q1⟩
  have H10 := Lib.hid (show Fr (fun _ => False) w4 w10 from H9.out.trans q1 (fun _ h => h) (fun _ _ h => h))
  clear q1
  have hrn := H10.out.row HB.out.2.2.1 (fun _ _ h => h)
  obtain ⟨f1, f2, f3⟩ := row_news hrn
  have HN := Lib.hid (And.intro f1 (And.intro f2 f3))
  have hE : (w10.alloc (.cells #[] 2)).ownsRow 0 2 1 (.slice (some ⟨w10.heap.size, 0, none⟩) 0 0) 0 [] := World.ownsRow_lit (base := 0) (e := 2) (size := 1) w10 #[] 0 (Nat.zero_le _) (by unfold maxLen; omega) rfl
  have HE := Lib.hid hE
  clear hrn f1 f2 f3 hE
  go_wp2_with (first | (at_builtin; refine wpList_append_any rfl _ _ 38 rfl 2 i2 (.int .i64 0) 8 und38 hi2 hz2 hs2 hb2 rfl _ 0 [] rfl HE.out ar nr cr (rts.map (Value.int .i64)) rfl HN.out.1 HN.out.2.1 (fun ad e j u hu => (Fr.alloc (fun _ => False) w10 _).cell (HN.out.2.2 ad e j u hu) id) (by simp [Value.oneCell']) (by unfold maxLen; omega) (by omega) ?_))
  intro mv cm w11 hown hgr hloc
  have H11 := Lib.hid (show Fr (fun _ => False) w4 w11 ∧ w11.ownsRow 0 2 1 (.slice mv nr cm) nr (rts.map (Value.int .i64)) ∧ (∀ k, (Value.slice mv nr cm).ownBlock = some k → w4.heap.size ≤ k) from by
    have h7 := H10.out.size
    refine ⟨(H10.out.trans (Fr.alloc (fun _ => False) w10 _) (fun _ h => h) (fun _ _ h => h)).trans (Fr.of_grown (S := fun i => i = w10.heap.size) hgr (fun i hi => by simpa [Value.ownBlock] using hi.symm)) (fun _ h => h) (fun i hi e => by omega), by simpa using hown, fun k hk => ?_⟩
    rcases hloc with h | h
    · rw [h] at hk
      have : w10.heap.size = k := by simpa [Value.ownBlock] using hk
      omega
    · rw [h] at hk
      have h8 : w10.heap.size + 1 = k := Option.some.inj hk
      omega)
  clear hown hgr hloc
  have hmS : ∀ k, (Value.slice mv nr cm).ownBlock = some k → ¬ S k ∧ ¬ R k := fun k hk => by
    have h7 := H11.out.2.2 k hk
    exact ⟨fun e => by have := HB.out.1.a.lt e; omega, fun e => by have := HB.out.1.r.lt e; omega⟩
  have HM := Lib.hid hmS
  clear hmS
  have HT2 := Lib.hid (HB.out.1.kept H11.out.1)
  have hF := HF1.out.trans HB.out.1.fr (fun _ h => h) (fun _ _ h => h)
  have HF := Lib.hid hF
  clear hF
  by_cases hok : rootsOk s rts
  · go_wp2_with fail
    refine (Collect_ok p _ _ _ _ rts S s T D rs _ HT2.out.a (by rw [← Hnr.out]; exact H11.out.2.1) hok (HB.out.2.1.keep H11.out.1 (fun _ _ h => h)) HB.out.2.2.2.1 (fun k hk => (HM.out k hk).1) (by rw [← Hnr.out]; omega)).mono ?_
    rintro e w12 ⟨uv, rfl, r1, r2, S', r3, r4, r5, r6⟩
    obtain ⟨S2, hT12⟩ := HT2.out.turnA ⟨S', r3, r4, r5⟩
    have hsz := H11.out.1.size
    have H12 := Lib.hid (show Two w1 w12 p S2 (collectS s T rts) q R s ∧ TabIs w12 (.slice at_ lt ct) T D rs ∧ w12.ownsRow 0 2 1 (.slice ar nr cr) nr (rts.map (Value.int .i64)) ∧ w12.ownsRow 0 2 1 (.slice mv nr cm) nr (rts.map (Value.int .i64)) ∧ w12.ownsRow 0 2 1 uv rts.length ((collectR s T rts).map (Value.int .i64)) ∧ (∀ k, uv.ownBlock = some k → ¬ R k) ∧ w11.heap.size ≤ w12.heap.size from
      ⟨hT12, (HB.out.2.1.keep H11.out.1 (fun _ _ h => h)).keep r4 HB.out.2.2.2.1, r4.row (H11.out.1.row HB.out.2.2.1 (fun _ _ h => h)) (fun k hk => (HB.out.2.2.2.2.2.2 k hk).1), r4.row H11.out.2.1 (fun k hk => (HM.out k hk).1), r1, fun k hk e => by have := r2 k hk; have := HT2.out.r.lt e; omega, r4.size⟩)
    clear r1 r2 r3 r4 r5 r6 hT12
    obtain ⟨au, cu, rfl⟩ := row_form H12.out.2.2.2.2.1
    rw [← Hnr.out] at H12 ⊢
    go_wp2_with fail
    refine (refCollect_ok q _ _ rts R s T D rs _ H12.out.1.r HT2.out.a.good (by rw [← Hnr.out]; exact H12.out.2.2.1) hok H12.out.2.1 HB.out.2.2.2.2.1 (fun k hk => by have := HB.out.2.2.2.2.2.1 k hk; have := H12.out.2.2.2.2.2.2; omega) (fun k hk => (HB.out.2.2.2.2.2.2 k hk).2) (by rw [← Hnr.out]; omega)).mono ?_
    rintro e w13 ⟨uv2, rfl, r1, r2, R', r3, r4, r5, r6⟩
    obtain ⟨R2, hT13⟩ := H12.out.1.turnR ⟨R', r3, r4, r5⟩
    have H13 := Lib.hid (show Two w1 w13 p S2 (collectS s T rts) q R2 (collectS s T rts) ∧ w13.ownsRow 0 2 1 (.slice ar nr cr) nr (rts.map (Value.int .i64)) ∧ w13.ownsRow 0 2 1 (.slice mv nr cm) nr (rts.map (Value.int .i64)) ∧ w13.ownsRow 0 2 1 (.slice au nr cu) nr ((collectR s T rts).map (Value.int .i64)) ∧ w13.ownsRow 0 2 1 uv2 nr ((collectR s T rts).map (Value.int .i64)) from
      ⟨hT13, r4.row H12.out.2.2.1 (fun k hk => (HB.out.2.2.2.2.2.2 k hk).2), r4.row H12.out.2.2.2.1 (fun k hk => (HM.out k hk).2), r4.row H12.out.2.2.2.2.1 H12.out.2.2.2.2.2.1, by rw [Hnr.out]; exact r1⟩)
    have hcl : (collectR s T rts).length = nr := by unfold collectR; rw [List.length_map]; exact Hnr.out.symm
    have Hcl := Lib.hid hcl
    clear r1 r2 r3 r4 r5 r6 hT13 hcl
    go_wp2_with fail
    refine (SameWords_any _ _ (collectR s T rts) (collectR s T rts) _ (by rw [Hcl.out]; exact H13.out.2.2.2.1) (by rw [Hcl.out]; exact H13.out.2.2.2.2)).mono ?_
    rw [sameW_self]
    rintro e w14 ⟨rfl, nd, hw14⟩
    have H14 := Lib.hid (show Fr (fun _ => False) w13 w14 from by rw [hw14]; exact Fr.drewN _ w13 nd)
    clear hw14
    go_wp2_with fail
    refine (Same2_any p q _ S2 R2 _ (H13.out.1.a.keep H14.out (fun _ _ h => h)) (H13.out.1.r.keep H14.out (fun _ _ h => h))).mono ?_
    rintro e w15 ⟨rfl, q1⟩
    have H15 := Lib.hid (show Fr (fun _ => False) w13 w15 from H14.out.trans q1 (fun _ h => h) (fun _ _ h => h))
    clear q1
    go_wp2_with fail
    refine (SameWords_any _ _ rts rts _ (by rw [← Hnr.out]; exact H15.out.row H13.out.2.2.1 (fun _ _ h => h)) (by rw [← Hnr.out]; exact H15.out.row H13.out.2.1 (fun _ _ h => h))).mono ?_
    rw [sameW_self]
    rintro e w16 ⟨rfl, nd, hw16⟩
    have H16 := Lib.hid (show Fr (fun _ => False) w13 w16 from by rw [hw16]; exact H15.out.trans (Fr.drewN _ w15 nd) (fun _ h => h) (fun _ _ h => h))
    clear hw16
    go_wp2
    go_ret
    exact ⟨rfl, (HF1.out.trans H13.out.1.fr (fun _ h => h) (fun _ _ h => h)).trans H16.out (fun _ h => h) (fun _ _ h => h)⟩
  · go_wp2_with fail
    refine (Collect_bad p _ _ _ _ rts S s _ HT2.out.a (by rw [← Hnr.out]; exact H11.out.2.1) hok).mono ?_
    rintro e w12 ⟨rfl, rfl⟩
    go_wp2_with fail
    refine (refCollect_bad q _ _ rts R s _ HT2.out.r HT2.out.a.good (by rw [← Hnr.out]; exact H11.out.1.row HB.out.2.2.1 (fun _ _ h => h)) hok).mono ?_
    rintro e w13 ⟨rfl, rfl⟩
    go_wp2_with fail
    refine (SameWords_any (.slice none 0 0) (.slice none 0 0) [] [] _ (World.ownsRow_nil _ _ _ _) (World.ownsRow_nil _ _ _ _)).mono ?_
    rw [sameW_self]
    rintro e w14 ⟨rfl, nd, hw14⟩
    have H14 := Lib.hid (show Fr (fun _ => False) w4 w14 from by rw [hw14]; exact H11.out.1.trans (Fr.drewN _ w13 nd) (fun _ h => h) (fun _ _ h => h))
    have HM14 := Lib.hid (show w14.ownsRow 0 2 1 (.slice mv nr cm) nr (rts.map (Value.int .i64)) from by rw [hw14]; exact H11.out.2.1)
    clear hw14
    go_wp2_with fail
    refine (Same2_any p q _ S R s (HB.out.1.a.keep H14.out (fun _ _ h => h)) (HB.out.1.r.keep H14.out (fun _ _ h => h))).mono ?_
    rintro e w15 ⟨rfl, q1⟩
    have H15 := Lib.hid (show Fr (fun _ => False) w4 w15 ∧ w15.ownsRow 0 2 1 (.slice mv nr cm) nr (rts.map (Value.int .i64)) from ⟨H14.out.trans q1 (fun _ h => h) (fun _ _ h => h), q1.row HM14.out (fun _ _ h => h)⟩)
    clear q1
    go_wp2_with fail
    refine (SameWords_any _ _ rts rts _ (by rw [← Hnr.out]; exact H15.out.2) (by rw [← Hnr.out]; exact H15.out.1.row HB.out.2.2.1 (fun _ _ h => h))).mono ?_
    rw [sameW_self]
    rintro e w16 ⟨rfl, nd, hw16⟩
    have H16 := Lib.hid (show Fr (fun _ => False) w4 w16 from by rw [hw16]; exact H15.out.1.trans (Fr.drewN _ w15 nd) (fun _ h => h) (fun _ _ h => h))
    clear hw16
    go_wp2
    go_ret
    exact ⟨rfl, HF.out.trans H16.out (fun _ h => h) (fun _ _ h => h)⟩
end Go.Proofs.Ytniifefmjdjebaa
