/- Walk: GcChains. -/
import Derived.Test.YtniifefmjdjebaaQ1
namespace Go.Proofs.Ytniifefmjdjebaa
open Go.RowKit
set_option linter.unusedVariables false
set_option linter.unusedSimpArgs false
set_option maxRecDepth 100000 in
set_option maxHeartbeats 8000000 in
theorem GcChains_any (n fr : Int) (ring : Bool) (w : World) (hn : I64 n) (hr : I64 fr) :
    Calls Try.prog 12 #[.int .i64 n, .int .i64 fr, .bool ring] w fun e w' => e = .returned (.bool true) ∧ Fr (fun _ => False) w w' := by
  obtain ⟨i2, hi2, hz2, hs2, hb2⟩ := info_parts info2
  have HI := Lib.hid (And.intro hn hr)
  have hm0 := Int.emod_nonneg n (show (60 : Int) ≠ 0 by omega)
  have hm1 := Int.emod_lt_of_pos n (show (0 : Int) < 60 by omega)
  clear hn hr
  go_enter Try.func12, Try.ntmps12
  go_wp2_with fail
  refine (gcKnown_any _).mono ?_
  rintro e w1 ⟨rfl, hf1⟩
  have HF1 := Lib.hid hf1; clear hf1
  go_wp2_with fail
  refine (in_any n 60 _ (by omega) (by omega) HI.out.1).mono ?_
  rintro e w2 ⟨rfl, rfl⟩
  obtain ⟨m, hm⟩ := Int.eq_ofNat_of_zero_le hm0
  rw [hm] at hm1 ⊢
  clear hm hm0
  go_wp2_with fail
  obtain ⟨N, hN⟩ : ∃ N : Nat, N = m + 1 := ⟨_, rfl⟩
  rw [show 1 + (m : Int) = (N : Int) from by omega]
  have hN1 : 1 ≤ N := by omega
  have hN2 : N ≤ 60 := by omega
  clear hN hm1
  have hf0 := Int.emod_nonneg fr (show (N : Int) ≠ 0 by omega)
  have hf1 := Int.emod_lt_of_pos fr (show (0 : Int) < N by omega)
  refine (in_any fr N _ (by omega) (by omega) HI.out.2).mono ?_
  rintro e w3 ⟨rfl, rfl⟩
  obtain ⟨f, hf⟩ := Int.eq_ofNat_of_zero_le hf0
  rw [hf] at hf1 ⊢
  clear hf hf0
  have hfN : f < N := by omega
  clear hf1
  go_wp2_with fail
  refine (New_any 16384 _ (by omega) (by omega)).mono ?_
  rintro e w4 ⟨p, S, rfl, q1, q2, q3⟩
  have HT0 := Lib.hid (show T1 w3 w4 S w4 p S ⟨chainMk 0, [], fun _ => none, 16384⟩ (.slice none 0 0) (caddrs 0) from
    ⟨q1, q2, q3, Fr.refl _ _, fun _ h => .inl h, World.ownsRow_nil _ _ _ _, by simp [Value.ownBlock]⟩)
  clear q1 q2 q3
  go_wp2_with fail
  go_loopw [9, 10] (fun u x10 wr => ∃ (i : Nat) (S' : Nat → Prop), i ≤ N ∧ x10 = .int .i64 i ∧ T1 w3 w4 S wr p S' ⟨chainMk i, [], fun _ => none, 16384⟩ u (caddrs i)) (fun _ x10 _ => (N - intOf x10).toNat)
  case atStart => exact ⟨0, S, by omega, rfl, HT0.out⟩
  case round =>
    obtain ⟨i, S1, hi, rfl, ht⟩ := hrel
    have HW := Lib.hid ht; clear ht
    have hrow := HW.out.row
    rw [caddrs_length] at hrow
    obtain ⟨au, cu, rfl⟩ := row_form hrow
    clear hrow
    by_cases hlt : i < N
    · have hmk := make_room ⟨chainMk i, [], fun _ => none, 16384⟩ (-2) 1 (by omega) (by omega) (by simp only [chainMk_tot]; omega)
      simp only [chainMk_tot] at hmk
      have HMk := Lib.hid hmk
      clear hmk
      go_wp2_with fail
      refine (Make_any p (-2) 1 S1 _ _ HW.out.a (by unfold I64; omega)).mono ?_
      rw [HMk.out.1, HMk.out.2.1, HMk.out.2.2]
      obtain ⟨ad, had⟩ : ∃ ad : Int, ad = ((24 * i : Nat) : Int) + 8 := ⟨_, rfl⟩
      have Had := Lib.hid (show ad = 24 * (i : Int) + 8 from by omega)
      rw [← had]
      clear had
      rintro e w5 ⟨rfl, q1⟩
      obtain ⟨S2, h5⟩ := HW.out.turn q1
      have H5 := Lib.hid (show T1 w3 w4 S w5 p S2 ⟨chainMk (i + 1), [], fun _ => none, 16384⟩ (.slice au i cu) (caddrs i) from by rw [chainMk_succ]; exact h5)
      have hrow5 := H5.out.row
      rw [caddrs_length] at hrow5
      have Hr5 := Lib.hid hrow5
      clear q1 h5 hrow5
      go_wp2_with (first | (at_builtin; refine wpList_append_own_at _ rfl _ _ 38 rfl 0 2 i2 (.int .i64 0) 1 8 und38 hi2 hz2 hs2 hb2 rfl (by decide) _ _ _ rfl (Hr5.out.alloc _) ⟨w5.heap.size, 0, none⟩ 1 1 [.int .i64 ad] rfl rfl (fun j u hu => cell_one_new _ _ _ j u hu) (by intro u hu; simp at hu; subst hu; rfl) (by unfold maxLen; omega) (by omega) (Nat.zero_le _) ?_))
      intro v8 w8 hown hgr _ hloc
      have H8 := Lib.hid (H5.out.appended (by rw [caddrs_length]; exact hown) hgr (by simpa using hloc))
      rw [Had.out, ← caddrs_succ] at H8
      clear hown hgr hloc
      go_wp2
      go_roundw
      case rel => exact ⟨i + 1, S2, by omega, by go_num, H8.out⟩
      case measure => simp [intOf]; omega
    · obtain rfl : N = i := by omega
      have HZ := Lib.hid (show T1 w3 w4 S wr p S1 ⟨chainPt N 0, [], fun _ => none, 16384⟩ (.slice au N cu) (caddrs N) from by rw [chainPt_zero]; exact HW.out)
      have HCl := Lib.hid (caddrs_length N)
      clear HW
      go_wp2_with fail
      go_loopw [13] (fun x13 wz => ∃ (k : Nat), k + 1 ≤ N ∧ x13 = .int .i64 k ∧ T1 w3 w4 S wz p S1 ⟨chainPt N k, [], fun _ => none, 16384⟩ (.slice au N cu) (caddrs N)) (fun x13 _ => (N - intOf x13).toNat)
      case atStart => exact ⟨0, by omega, rfl, HZ.out⟩
      case round =>
        clear HZ
        obtain ⟨k, hk, rfl, ht⟩ := hrel
        have HW := Lib.hid ht; clear ht
        have hrow := HW.out.row
        rw [HCl.out] at hrow
        obtain ⟨g, d, _, eg, _, _, _⟩ := row_addr hrow (by omega)
        simp only [Value.slice.injEq, true_and] at eg
        obtain ⟨rfl, rfl⟩ := eg
        by_cases hlt : k + 1 < N
        · have hc1 := row_int hrow (j := k) (by omega)
          have hc2 := row_int hrow (j := k + 1) hlt
          rw [caddrs_at (by omega)] at hc1
          rw [caddrs_at hlt] at hc2
          obtain ⟨x1, hx1⟩ : ∃ x1, x1 = 24 * (k : Int) + 8 := ⟨_, rfl⟩
          obtain ⟨x2, hx2⟩ : ∃ x2, x2 = 24 * ((k + 1 : Nat) : Int) + 8 := ⟨_, rfl⟩
          have hx2I : I64 x2 := by unfold I64; omega
          rw [← hx1] at hc1
          rw [← hx2] at hc2
          have HX := Lib.hid (show x1 = 24 * (k : Int) + 8 ∧ x2 = 24 * ((k : Int) + 1) + 8 ∧ I64 x2 from ⟨hx1, by omega, hx2I⟩)
          have HCs := Lib.hid (show (wr.drewN 1).cell? ⟨g, k, none⟩ = some (.int .i64 x1) ∧ (wr.drewN 1).cell? ⟨g, k + 1, none⟩ = some (.int .i64 x2) from ⟨hc1, hc2⟩)
          have HWd := Lib.hid (HW.out.drewN 1)
          have hgS : ¬ S1 g := (HW.out.far g rfl).1
          have HgS := Lib.hid hgS
          have HLt := Lib.hid hlt
          clear hrow hx1 hx2 hx2I hgS hc1 hc2
          go_wp2_with fail
          have hkN : (k : Int) < (N : Int) := by omega
          have hk0 : (0 : Int) ≤ (k : Int) := by omega
          have hk1N : (k : Int) + 1 < (N : Int) := by omega
          have hk10 : (0 : Int) ≤ (k : Int) + 1 := by omega
          have hwr : IntKind.i64.wrap ((k : Int) + 1) = (k : Int) + 1 := by rw [IntKind.wrap_i64]; omega
          have htn : ((k : Int) + 1).toNat = k + 1 := by omega
          go_region_held3 (fun w' => w'.cell? ⟨g, k, none⟩ = some (.int .i64 x1) ∧ w'.cell? ⟨g, k + 1, none⟩ = some (.int .i64 x2))
            (first | exact HCs.out | exact HC6.out)
            (first | (go_at_call 28; refine (Put_any p x1 0 x2 S1 _ _ HWd.out.a HX.out.2.2).mono ?_; obtain ⟨e1, he1⟩ : ∃ e1, e1 = slotE (findOb 0 (AS.used ⟨chainPt N k, [], fun _ => none, 16384⟩) x1) 0 := ⟨_, rfl⟩; rw [← he1]; rintro e w6 ⟨rfl, q1, q2⟩; have HC6 := Lib.hid (And.intro (q2.cell HCs.out.1 HgS.out) (q2.cell HCs.out.2 HgS.out)); have H6 := Lib.hid (HWd.out.put q1 q2); clear q1 q2 he1))
          have H7 := Lib.hid (show T1 w3 w4 S w6 p S1 ⟨chainPt N (k + 1), [], fun _ => none, 16384⟩ (.slice (some ⟨g, 0, none⟩) N cu) (caddrs N) from by
            rw [← chainPt_put N k HLt.out, ← HX.out.2.1, ← HX.out.1]; exact H6.out)
          go_wp2
          go_roundw
          case rel => exact ⟨k + 1, by omega, by go_num, H7.out⟩
          case measure => simp [intOf]; omega
        · have hkN : k = N - 1 := by omega
          have HW2 := Lib.hid (show T1 w3 w4 S wr p S1 ⟨chainPt N (N - 1), [], fun _ => none, 16384⟩ (.slice (some ⟨g, 0, none⟩) N cu) (caddrs N) from by rw [← hkN]; exact HW.out)
          have HgS := Lib.hid (show ¬ S1 g from (HW.out.far g rfl).1)
          clear hrow HW
          cases ring with
          | false =>
            have HQ := Lib.hid (show T1 w3 w4 S wr p S1 ⟨chain N false, [], fun _ => none, 16384⟩ (.slice (some ⟨g, 0, none⟩) N cu) (caddrs N) from by rw [← chainPt_open]; exact HW2.out)
            have HRt := Lib.hid (chain_root ⟨chain N false, [], fun _ => none, 16384⟩ N f false rfl hfN)
            have HSl := Lib.hid (fun (i : Nat) (hi : i < ckept N f false) => chain_slot ⟨chain N false, [], fun _ => none, 16384⟩ N f false rfl hfN hi)
            obtain ⟨K, hK⟩ : ∃ K, K = ckept N f false := ⟨_, rfl⟩
            rw [← hK] at HRt HSl
            have hkf : (N : Int) - (f : Int) = (K : Int) := by rw [hK]; show _ = ((N - f : Nat) : Int); omega
            have hK1 : 1 ≤ K ∧ K ≤ 60 := by rw [hK]; show 1 ≤ N - f ∧ N - f ≤ 60; omega
            clear hK
            go_wp2_with fail
            have HKf := Lib.hid hkf
            have HC := Lib.hid (fun (W : World) (hW : Fr (fun _ => False) wr W) => HQ.out.kept hW)
            have hrow := HQ.out.row
            rw [HCl.out] at hrow
            have hcf := row_int hrow hfN
            rw [caddrs_at hfN] at hcf
            obtain ⟨xf, hxf⟩ : ∃ xf, xf = 24 * (f : Int) + 8 := ⟨_, rfl⟩
            rw [← hxf] at hcf HRt HSl
            have HCf := Lib.hid (show (wr.drewN 1).cell? ⟨g, f, none⟩ = some (.int .i64 xf) from hcf)
            have hrl := World.ownsRow_lit (base := 0) (e := 2) (size := 1) wr #[.int .i64 xf] 1 (Nat.zero_le _) (by unfold maxLen; omega) rfl
            have HRl := Lib.hid (show ((wr.alloc (.cells #[.int .i64 xf] 2)).drewN 1).ownsRow 0 2 1 (.slice (some ⟨wr.heap.size, 0, none⟩) 1 1) [xf].length ([xf].map (Value.int .i64)) from hrl)
            have HWl := Lib.hid (HQ.out.kept ((Fr.alloc (fun _ => False) wr (.cells #[.int .i64 xf] 2)).trans (Fr.drewN _ _ 1) (fun _ h => h) (fun _ _ h => h)))
            have HfS := Lib.hid (show ∀ k, (Value.slice (some ⟨wr.heap.size, 0, none⟩) 1 1).ownBlock = some k → ¬ S1 k from fun k hk e => by
              have h7 : wr.heap.size = k := Option.some.inj hk
              have h8 := HQ.out.a.lt e
              omega)
            have hfN2 : (f : Int) < (N : Int) := by omega
            have hf02 : (0 : Int) ≤ (f : Int) := by omega
            clear hrow hcf hxf hrl hkf
            go_region_held3 (fun w' => w'.cell? ⟨g, f, none⟩ = some (.int .i64 xf))
              (first | exact HCf.out | exact (Fr.alloc (fun _ => False) _ _).cell HCf.out id | exact HC6.out)
              (first
                | (go_at_call 48; refine (all_any _).mono ?_; rintro e w5 ⟨rfl, rfl⟩)
                | (go_at_call 47; refine (Collect_ok p none 0 0 _ [xf] S1 _ [] (fun _ => False) [] _ HWl.out.a HRl.out HRt.out.1 (TabIs.none _) (fun _ h => h.elim) HfS.out (by simp)).mono ?_; rintro e w6 ⟨nv, rfl, q1, q2, S4, q3, q4, q5, q6⟩; have HC6 := Lib.hid (q4.cell (show ((wr.alloc (.cells #[.int .i64 xf] 2)).drewN 1).cell? ⟨g, f, none⟩ = some (.int .i64 xf) from (Fr.alloc (fun _ => False) _ _).cell HCf.out id) HgS.out); have H6 := Lib.hid (And.intro (HWl.out.turned q3 q4 q5) q1); clear q1 q2 q3 q4 q5 q6))
            all_goals (
              have hnv := H6.out.2
              rw [HRt.out.2.1] at hnv
              obtain ⟨an, cn, rfl⟩ := row_form hnv
              obtain ⟨gn, dn, _, en, _, _, _⟩ := row_addr hnv (by simp)
              simp only [Value.slice.injEq, true_and] at en
              obtain ⟨rfl, rfl⟩ := en
              have hc8 := row_int hnv (j := 0) (by simp)
              simp only [List.getElem?_cons_zero, Option.getD_some, List.length_cons, List.length_nil] at hc8 ⊢
              obtain ⟨s2, hs2⟩ : ∃ s2, s2 = collectS ⟨chain N false, [], fun _ => none, 16384⟩ [] [xf] := ⟨_, rfl⟩
              rw [← hs2] at H6 HRt HSl
              have HA6 := Lib.hid H6.out.1
              have htt : ((tot s2.used : Nat) : Int) = 24 * (K : Int) := by rw [HRt.out.2.2]; omega
              have HTt := Lib.hid htt
              clear hnv htt hs2
              go_wp2_with fail
              refine (Used_any p S4 s2 _ HA6.out.a).mono ?_
              rw [HTt.out]
              rintro e w7 ⟨rfl, rfl⟩
              clear hc8
              go_wp2_with fail
              go_loopw [17] (fun x17 wz => ∃ i : Nat, i ≤ K ∧ x17 = .int .i64 i ∧ IsArena wz p S4 s2 ∧ Fr (fun _ => False) w3 wz) (fun x17 _ => (K - intOf x17).toNat)
              case atStart => exact ⟨0, by omega, rfl, HA6.out.a, HA6.out.fr⟩
              case round =>
                obtain ⟨i, hi, rfl, ha, hfr⟩ := hrel
                have HZ := Lib.hid (And.intro ha hfr)
                clear ha hfr
                by_cases hiK : i < K
                · obtain ⟨x, hx1, hx2, hx3⟩ := HSl.out i hiK
                  have HX := Lib.hid (And.intro hx1 (And.intro (show slotE (some x) 0 = 0 from by unfold slotE; simp only; rw [hx2]; rfl) hx3))
                  clear hx1 hx2 hx3
                  go_wp2_with fail
                  rw [show (8 : Int) + 24 * (i : Int) = 24 * (i : Int) + 8 from by omega]
                  refine (Get_any p (24 * (i : Int) + 8) 0 S4 s2 _ HZ.out.1).mono ?_
                  rw [HX.out.1, HX.out.2.1, HX.out.2.2]
                  rintro e w8 ⟨rfl, nd, hw8⟩
                  have H8 := Lib.hid (show IsArena w8 p S4 s2 ∧ Fr (fun _ => False) w3 w8 from by rw [hw8]; exact ⟨HZ.out.1.drewN nd, HZ.out.2.trans (Fr.drewN _ wr nd) (fun _ h => h) (fun _ _ h => h)⟩)
                  clear hw8
                  by_cases hl : i + 1 = K
                  · rw [if_pos hl]
                    have hb : ((i : Int) == (K : Int) - 1) = true := by rw [beq_iff_eq]; omega
                    clear hl
                    go_wp2
                    go_roundw
                    case rel => exact ⟨i + 1, by omega, by go_num, H8.out⟩
                    case measure => simp [intOf]; omega
                  · rw [if_neg hl, show 24 * ((i : Int) + 1) + 8 = 8 + 24 * ((i : Int) + 1) from by omega]
                    have hb : ((i : Int) == (K : Int) - 1) = false := by simp; omega
                    clear hl
                    go_wp2
                    go_roundw
                    case rel => exact ⟨i + 1, by omega, by go_num, H8.out⟩
                    case measure => simp [intOf]; omega
                · go_wp2
                  go_ret
                  exact ⟨rfl, HF1.out.trans HZ.out.2 (fun _ h => h) (fun _ _ h => h)⟩)
          | true =>
            have hl19 := HW2.out.row
            rw [HCl.out] at hl19
            have hc1 := row_int hl19 (j := N - 1) (by omega)
            have hc2 := row_int hl19 (j := 0) (by omega)
            rw [caddrs_at (by omega)] at hc1
            rw [caddrs_at (by omega)] at hc2
            rw [show 24 * ((0 : Nat) : Int) + 8 = 8 from rfl] at hc2
            obtain ⟨x1, hx1⟩ : ∃ x1, x1 = 24 * ((N - 1 : Nat) : Int) + 8 := ⟨_, rfl⟩
            rw [← hx1] at hc1
            have HX := Lib.hid hx1
            have HCs := Lib.hid (show (wr.drewN 1).cell? ⟨g, N - 1, none⟩ = some (.int .i64 x1) ∧ (wr.drewN 1).cell? ⟨g, 0, none⟩ = some (.int .i64 8) from ⟨hc1, hc2⟩)
            have HWd := Lib.hid (HW2.out.drewN 1)
            clear hl19 hc1 hc2 hx1
            go_wp2_with fail
            have hk1N : (N : Int) - 1 < (N : Int) := by omega
            have hk10 : (0 : Int) ≤ (N : Int) - 1 := by omega
            have hN0 : (0 : Int) < (N : Int) := by omega
            have hNp : 0 < N := by omega
            have hN1i : (1 : Int) ≤ (N : Int) := by omega
            have hNe : ¬ N = 0 := by omega
            have hwr : IntKind.i64.wrap ((N : Int) - 1) = (N : Int) - 1 := by rw [IntKind.wrap_i64]; omega
            have htn : ((N : Int) - 1).toNat = N - 1 := by omega
            go_region_held3 (fun w' => w'.cell? ⟨g, N - 1, none⟩ = some (.int .i64 x1) ∧ w'.cell? ⟨g, 0, none⟩ = some (.int .i64 8))
              (first | exact HCs.out | exact HC6.out)
              (first | (go_at_call 28; refine (Put_any p x1 0 8 S1 _ _ HWd.out.a (by unfold I64; omega)).mono ?_; obtain ⟨e1, he1⟩ : ∃ e1, e1 = slotE (findOb 0 (AS.used ⟨chainPt N (N - 1), [], fun _ => none, 16384⟩) x1) 0 := ⟨_, rfl⟩; rw [← he1]; rintro e w9 ⟨rfl, q1, q2⟩; have HC6 := Lib.hid (And.intro (q2.cell HCs.out.1 HgS.out) (q2.cell HCs.out.2 HgS.out)); have H6 := Lib.hid (HWd.out.put q1 q2); clear q1 q2 he1))
            have HQ := Lib.hid (show T1 w3 w4 S w9 p S1 ⟨chain N true, [], fun _ => none, 16384⟩ (.slice (some ⟨g, 0, none⟩) N cu) (caddrs N) from by
              rw [← chainPt_ring N (by omega), ← HX.out]; exact H6.out)
            have HRt := Lib.hid (chain_root ⟨chain N true, [], fun _ => none, 16384⟩ N f true rfl hfN)
            have HSl := Lib.hid (fun (i : Nat) (hi : i < ckept N f true) => chain_slot ⟨chain N true, [], fun _ => none, 16384⟩ N f true rfl hfN hi)
            have hKN : ckept N f true = N := rfl
            rw [hKN] at HRt HSl
            clear hKN H6 HC6 HCs
            go_wp2_with fail
            have HC := Lib.hid (fun (W : World) (hW : Fr (fun _ => False) w9 W) => HQ.out.kept hW)
            have hrow := HQ.out.row
            rw [HCl.out] at hrow
            have hcf := row_int hrow hfN
            rw [caddrs_at hfN] at hcf
            obtain ⟨xf, hxf⟩ : ∃ xf, xf = 24 * (f : Int) + 8 := ⟨_, rfl⟩
            rw [← hxf] at hcf HRt HSl
            have HCf := Lib.hid (show (w9.drewN 1).cell? ⟨g, f, none⟩ = some (.int .i64 xf) from hcf)
            have hrl := World.ownsRow_lit (base := 0) (e := 2) (size := 1) w9 #[.int .i64 xf] 1 (Nat.zero_le _) (by unfold maxLen; omega) rfl
            have HRl := Lib.hid (show ((w9.alloc (.cells #[.int .i64 xf] 2)).drewN 1).ownsRow 0 2 1 (.slice (some ⟨w9.heap.size, 0, none⟩) 1 1) [xf].length ([xf].map (Value.int .i64)) from hrl)
            have HWl := Lib.hid (HQ.out.kept ((Fr.alloc (fun _ => False) w9 (.cells #[.int .i64 xf] 2)).trans (Fr.drewN _ _ 1) (fun _ h => h) (fun _ _ h => h)))
            have HfS := Lib.hid (show ∀ k, (Value.slice (some ⟨w9.heap.size, 0, none⟩) 1 1).ownBlock = some k → ¬ S1 k from fun k hk e => by
              have h7 : w9.heap.size = k := Option.some.inj hk
              have h8 := HQ.out.a.lt e
              omega)
            have hfN2 : (f : Int) < (N : Int) := by omega
            have hf02 : (0 : Int) ≤ (f : Int) := by omega
            clear hrow hcf hxf hrl
            go_region_held3 (fun w' => w'.cell? ⟨g, f, none⟩ = some (.int .i64 xf))
              (first | exact HCf.out | exact (Fr.alloc (fun _ => False) _ _).cell HCf.out id | exact HC6.out)
              (first
                | (go_at_call 48; refine (all_any _).mono ?_; rintro e w5 ⟨rfl, rfl⟩)
                | (go_at_call 47; refine (Collect_ok p none 0 0 _ [xf] S1 _ [] (fun _ => False) [] _ HWl.out.a HRl.out HRt.out.1 (TabIs.none _) (fun _ h => h.elim) HfS.out (by simp)).mono ?_; rintro e w6 ⟨nv, rfl, q1, q2, S4, q3, q4, q5, q6⟩; have HC6 := Lib.hid (q4.cell (show ((w9.alloc (.cells #[.int .i64 xf] 2)).drewN 1).cell? ⟨g, f, none⟩ = some (.int .i64 xf) from (Fr.alloc (fun _ => False) _ _).cell HCf.out id) HgS.out); have H6 := Lib.hid (And.intro (HWl.out.turned q3 q4 q5) q1); clear q1 q2 q3 q4 q5 q6))
            all_goals (
              have hnv := H6.out.2
              rw [HRt.out.2.1] at hnv
              obtain ⟨an, cn, rfl⟩ := row_form hnv
              obtain ⟨gn, dn, _, en, _, _, _⟩ := row_addr hnv (by simp)
              simp only [Value.slice.injEq, true_and] at en
              obtain ⟨rfl, rfl⟩ := en
              have hc8 := row_int hnv (j := 0) (by simp)
              simp only [List.getElem?_cons_zero, Option.getD_some, List.length_cons, List.length_nil] at hc8 ⊢
              obtain ⟨s2, hs2⟩ : ∃ s2, s2 = collectS ⟨chain N true, [], fun _ => none, 16384⟩ [] [xf] := ⟨_, rfl⟩
              rw [← hs2] at H6 HRt HSl
              have HA6 := Lib.hid H6.out.1
              have htt : ((tot s2.used : Nat) : Int) = 24 * (N : Int) := by rw [HRt.out.2.2]; omega
              have HTt := Lib.hid htt
              clear hnv htt hs2
              go_wp2_with fail
              refine (Used_any p S4 s2 _ HA6.out.a).mono ?_
              rw [HTt.out]
              rintro e w7 ⟨rfl, rfl⟩
              clear hc8
              go_wp2_with fail
              go_loopw [17] (fun x17 wz => ∃ i : Nat, i ≤ N ∧ x17 = .int .i64 i ∧ IsArena wz p S4 s2 ∧ Fr (fun _ => False) w3 wz) (fun x17 _ => (N - intOf x17).toNat)
              case atStart => exact ⟨0, by omega, rfl, HA6.out.a, HA6.out.fr⟩
              case round =>
                obtain ⟨i, hi, rfl, ha, hfr⟩ := hrel
                have HZ := Lib.hid (And.intro ha hfr)
                clear ha hfr
                by_cases hiK : i < N
                · obtain ⟨x, hx1, hx2, hx3⟩ := HSl.out i hiK
                  have HX := Lib.hid (And.intro hx1 (And.intro (show slotE (some x) 0 = 0 from by unfold slotE; simp only; rw [hx2]; rfl) hx3))
                  clear hx1 hx2 hx3
                  go_wp2_with fail
                  rw [show (8 : Int) + 24 * (i : Int) = 24 * (i : Int) + 8 from by omega]
                  refine (Get_any p (24 * (i : Int) + 8) 0 S4 s2 _ HZ.out.1).mono ?_
                  rw [HX.out.1, HX.out.2.1, HX.out.2.2]
                  rintro e w8 ⟨rfl, nd, hw8⟩
                  have H8 := Lib.hid (show IsArena w8 p S4 s2 ∧ Fr (fun _ => False) w3 w8 from by rw [hw8]; exact ⟨HZ.out.1.drewN nd, HZ.out.2.trans (Fr.drewN _ wr nd) (fun _ h => h) (fun _ _ h => h)⟩)
                  clear hw8
                  by_cases hl : i + 1 = N
                  · rw [if_pos hl]
                    have hb : ((i : Int) == (N : Int) - 1) = true := by rw [beq_iff_eq]; omega
                    clear hl
                    go_wp2
                    go_roundw
                    case rel => exact ⟨i + 1, by omega, by go_num, H8.out⟩
                    case measure => simp [intOf]; omega
                  · rw [if_neg hl, show 24 * ((i : Int) + 1) + 8 = 8 + 24 * ((i : Int) + 1) from by omega]
                    have hb : ((i : Int) == (N : Int) - 1) = false := by simp; omega
                    clear hl
                    go_wp2
                    go_roundw
                    case rel => exact ⟨i + 1, by omega, by go_num, H8.out⟩
                    case measure => simp [intOf]; omega
                · go_wp2
                  go_ret
                  exact ⟨rfl, HF1.out.trans HZ.out.2 (fun _ h => h) (fun _ _ h => h)⟩)
end Go.Proofs.Ytniifefmjdjebaa
