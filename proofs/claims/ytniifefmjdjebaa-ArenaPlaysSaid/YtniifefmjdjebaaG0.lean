/- Walk: ArenaPlays. -/
import Derived.Test.YtniifefmjdjebaaF9
namespace Go.Proofs.Ytniifefmjdjebaa
open Go.RowKit
set_option linter.unusedVariables false
set_option linter.unusedSimpArgs false
set_option maxRecDepth 100000 in
set_option maxHeartbeats 4000000 in
theorem ArenaPlays_any (semi : Int) (a1 : Option Addr) (len1 cap1 : Nat) (c : Nat → CallD) (w : World) (hs : I64 semi) (h1 : CallsIn w a1 len1 c) :
    Calls Try.prog 8 #[.int .i64 semi, .slice a1 len1 cap1] w fun e w' => e = .returned (.bool true) ∧ Fr (fun _ => False) w w' := by
  have HI := Lib.hid h1; clear h1
  by_cases hbad : semi < 256 ∨ semi > 1048576
  · go_enter Try.func8, Try.ntmps8
    go_wp2_with fail
    refine (known_any _).mono ?_
    rintro e w1 ⟨rfl, hf1⟩
    have HF1 := Lib.hid hf1; clear hf1
    go_wp2_with fail
    refine (New_bad semi _ hbad).mono ?_
    rintro e w2 ⟨rfl, rfl⟩
    go_wp2_with fail
    refine (refNew_bad semi _ hbad).mono ?_
    rintro e w3 ⟨rfl, rfl⟩
    clear hbad
    go_wp2
    go_ret
    exact ⟨rfl, HF1.out⟩
  · have h0 : 256 ≤ semi := by omega
    have h1 : semi ≤ 1048576 := by omega
    clear hbad
    go_enter Try.func8, Try.ntmps8
    go_wp2_with fail
    refine (known_any _).mono ?_
    rintro e w1 ⟨rfl, hf1⟩
    have HF1 := Lib.hid hf1; clear hf1
    go_wp2_with fail
    refine (New_any semi _ h0 h1).mono ?_
    rintro e w2 ⟨p, S, rfl, q1, q2, q3⟩
    have HA := Lib.hid (And.intro q1 (And.intro q2 q3)); clear q1 q2 q3
    go_wp2_with fail
    refine (refNew_any semi _ h0 h1).mono ?_
    rintro e w3 ⟨q, R, rfl, q1, q2, q3⟩
    have HT := Lib.hid (show Two w w3 p S (AS.new semi) q R (AS.new semi) from
      ⟨HA.out.1.keep q2 (fun _ _ h => h), q1, fun k hs hr => by have := q3 k hr; have := HA.out.1.lt hs; omega, (HF1.out.trans HA.out.2.1 (fun _ h => h) (fun _ _ h => h)).trans q2 (fun _ h => h) (fun _ _ h => h),
        fun k hk => Nat.le_trans HF1.out.size (HA.out.2.2 k hk), fun k hk => Nat.le_trans (Nat.le_trans HF1.out.size HA.out.2.1.size) (q3 k hk)⟩)
    clear q1 q2 q3
    obtain ⟨s0, hs0⟩ : ∃ s, s = AS.new semi := ⟨_, rfl⟩
    rw [← hs0] at HT
    clear hs0
    go_wp2_with fail
    have hsm := HI.out.small
    go_loopw [9] (fun i wr => ∃ (k : Nat) (S R : Nat → Prop) (s : AS), k ≤ len1 ∧ k ≤ 100 ∧ i = .int .i64 k ∧ TwoC w wr p S s q R s []) (fun i _ => (100 - intOf i).toNat)
    case atStart => exact ⟨0, S, R, s0, by omega, by omega, rfl, HT.out, fun _ h => by cases h⟩
    case round =>
      obtain ⟨k, S, R, s, hk1, hk2, rfl, htwo⟩ := hrel
      have HW := Lib.hid htwo; clear htwo
      by_cases hlt : k < len1 ∧ k < 100
      · obtain ⟨hl1, hl2⟩ := hlt
        have hci := HI.out.keep HW.out.two.fr
        obtain ⟨b, off, rfl, hcells⟩ := hci.cells (by omega)
        obtain ⟨f1, f2, f3, f4, f5⟩ := hcells k hl1
        have hfit := HI.out.fit k hl1
        have Hf := Lib.hid hfit
        clear hci hcells hfit
        go_wp2_with fail
        have HC := Lib.hid (HW.out.withC (c k))
        obtain ⟨wc, hwc⟩ : ∃ wc, wc = wr.alloc (.cells #[.int .i64 (c k).kind, .int .i64 (c k).n, .int .i64 (c k).m, .int .i64 (c k).at_, .int .i64 (c k).v] 49) := ⟨_, rfl⟩
        rw [← hwc] at HC ⊢
        obtain ⟨cb, hcb⟩ : ∃ cb, cb = wr.heap.size := ⟨_, rfl⟩
        rw [← hcb] at HC ⊢
        clear hwc hcb f1 f2 f3 f4 f5
        obtain ⟨ck, hck⟩ : ∃ ck, ck = c k := ⟨_, rfl⟩
        rw [← hck] at HC Hf ⊢
        clear hck
        obtain ⟨kd, cn, cm, ca, cv⟩ := ck
        simp only
        have HD := Lib.hid (HC.out.drewN 1)
        go_region_held3 (fun w' => w'.cell? ⟨cb, 0, none⟩ = some (.int .i64 kd) ∧ w'.cell? ⟨cb, 1, none⟩ = some (.int .i64 cn) ∧ w'.cell? ⟨cb, 2, none⟩ = some (.int .i64 cm) ∧ w'.cell? ⟨cb, 3, none⟩ = some (.int .i64 ca) ∧ w'.cell? ⟨cb, 4, none⟩ = some (.int .i64 cv))
          (first | exact HD.out.cells | exact H1.out.cells | exact H2.out.cells | exact H4.out.cells | exact H5.out.cells)
          (first
            | (go_at_call 37; refine (done_any p q ⟨kd, cn, cm, ca, cv⟩ w _ S R s _ HD.out Hf.out).mono ?_; rintro e w1 ⟨rfl, S1, R1, s1, h1⟩; have H1 := Lib.hid h1; clear h1)
            | (go_at_call 38; refine (Same_any p q w _ S1 R1 s1 _ H1.out).mono ?_; rintro e w2 ⟨rfl, h2⟩; have H2 := Lib.hid h2; clear h2)
            | (go_at_call 39; refine (asked_any p q ca w _ S1 R1 s1 H2.out.two).mono ?_; rintro e w3 ⟨rfl, rfl⟩)
            | (go_at_call 22; refine (room_any p cm S1 s1 _ H2.out.two.a).mono ?_; rintro e w4 ⟨rfl, n4, hw4⟩; have H4 := Lib.hid (show TwoC w w4 p S1 s1 q R1 s1 _ from by rw [hw4]; exact H2.out.drewN n4); clear hw4)
            | (go_at_call 40; refine (refRoom_any q cm R1 s1 _ H4.out.two.r H4.out.two.a.good).mono ?_; rintro e w5 ⟨rfl, n5, hw5⟩; have H5 := Lib.hid (show TwoC w w5 p S1 s1 q R1 s1 _ from by rw [hw5]; exact H4.out.drewN n5); clear hw5))
        go_wp2
        go_roundw
        case rel => exact ⟨k + 1, S1, R1, s1, by omega, by omega, by go_num, H5.out.tail⟩
        case measure => simp [intOf]; omega
      · by_cases hl1 : k < len1
        · have hl2 : ¬ k < 100 := by omega
          clear hlt
          go_wp2_with fail
          refine (refAll_any q R s _ HW.out.two.r HW.out.two.a.good).mono ?_
          rintro e w4 ⟨vl, rfl, q1, q2, q3⟩
          have H4 := Lib.hid (And.intro (HW.out.two.kept q2) q1)
          rw [List.length_map, addrs_length] at q1
          obtain ⟨al, cl, rfl⟩ := row_form q1
          have Hrow := Lib.hid q1
          clear q1 q2 q3
          obtain ⟨n, hn⟩ : ∃ n, n = s.used.length := ⟨_, rfl⟩
          rw [← hn] at Hrow ⊢
          have Hn := Lib.hid hn
          have hg := H4.out.1.a.good.small
          have hll := len_le_tot s.used
          rw [← hn] at hll
          clear hn
          go_wp2_with fail
          go_loopw [12] (fun i wr => ∃ j : Nat, j ≤ n ∧ i = .int .i64 j ∧ ∃ m, wr = w4.drewN m) (fun i _ => (n - intOf i).toNat)
          case atStart => exact ⟨0, by omega, rfl, 0, rfl⟩
          case round =>
            obtain ⟨j, hj, rfl, m, rfl⟩ := hrel
            by_cases hjl : j < n
            · obtain ⟨gl, ql, _, el, _, _, _⟩ := row_addr Hrow.out (by omega)
              simp only [Value.slice.injEq, true_and] at el
              obtain ⟨rfl, rfl⟩ := el
              have hcell := row_int Hrow.out hjl
              have had : (addrs 0 s.used)[j]?.getD 0 = adr s.used j := addrs_adr s.used j (by rw [← Hn.out]; exact hjl)
              rw [had] at hcell
              have hb1 : 8 ≤ adr s.used j := by unfold adr; omega
              have hb2 : adr s.used j ≤ 1048576 + 8 := by unfold adr; have := tot_take_le s.used j; omega
              obtain ⟨d, hd⟩ : ∃ d, d = adr s.used j := ⟨_, rfl⟩
              rw [← hd] at hcell hb1 hb2
              have hs8 : IntKind.i64.wrap (d + 8) = d + 8 := by rw [IntKind.wrap_i64]; omega
              have hs1 : IntKind.i64.wrap (d - 1) = d - 1 := by rw [IntKind.wrap_i64]; omega
              have hcm : (w4.drewN m).cell? ⟨gl, j, none⟩ = some (.int .i64 d) := hcell
              clear hd had
              go_wp2_with fail
              refine (asked_any p q d w _ S R s (H4.out.1.drewN m)).mono ?_
              rintro e w5 ⟨rfl, rfl⟩
              go_wp2_with fail
              refine (asked_any p q (d + 8) w _ S R s (H4.out.1.drewN m)).mono ?_
              rintro e w5 ⟨rfl, rfl⟩
              go_wp2_with fail
              refine (asked_any p q (d - 1) w _ S R s (H4.out.1.drewN m)).mono ?_
              rintro e w5 ⟨rfl, rfl⟩
              go_wp2
              go_roundw
              case rel => exact ⟨j + 1, by omega, by go_num, m, rfl⟩
              case measure => simp [intOf]; omega
            · go_wp2
              go_ret
              exact ⟨rfl, (H4.out.1.drewN m).fr⟩
        · clear hlt
          go_wp2_with fail
          refine (refAll_any q R s _ HW.out.two.r HW.out.two.a.good).mono ?_
          rintro e w4 ⟨vl, rfl, q1, q2, q3⟩
          have H4 := Lib.hid (And.intro (HW.out.two.kept q2) q1)
          rw [List.length_map, addrs_length] at q1
          obtain ⟨al, cl, rfl⟩ := row_form q1
          have Hrow := Lib.hid q1
          clear q1 q2 q3
          obtain ⟨n, hn⟩ : ∃ n, n = s.used.length := ⟨_, rfl⟩
          rw [← hn] at Hrow ⊢
          have Hn := Lib.hid hn
          have hg := H4.out.1.a.good.small
          have hll := len_le_tot s.used
          rw [← hn] at hll
          clear hn
          go_wp2_with fail
          go_loopw [12] (fun i wr => ∃ j : Nat, j ≤ n ∧ i = .int .i64 j ∧ ∃ m, wr = w4.drewN m) (fun i _ => (n - intOf i).toNat)
          case atStart => exact ⟨0, by omega, rfl, 0, rfl⟩
          case round =>
            obtain ⟨j, hj, rfl, m, rfl⟩ := hrel
            by_cases hjl : j < n
            · obtain ⟨gl, ql, _, el, _, _, _⟩ := row_addr Hrow.out (by omega)
              simp only [Value.slice.injEq, true_and] at el
              obtain ⟨rfl, rfl⟩ := el
              have hcell := row_int Hrow.out hjl
              have had : (addrs 0 s.used)[j]?.getD 0 = adr s.used j := addrs_adr s.used j (by rw [← Hn.out]; exact hjl)
              rw [had] at hcell
              have hb1 : 8 ≤ adr s.used j := by unfold adr; omega
              have hb2 : adr s.used j ≤ 1048576 + 8 := by unfold adr; have := tot_take_le s.used j; omega
              obtain ⟨d, hd⟩ : ∃ d, d = adr s.used j := ⟨_, rfl⟩
              rw [← hd] at hcell hb1 hb2
              have hs8 : IntKind.i64.wrap (d + 8) = d + 8 := by rw [IntKind.wrap_i64]; omega
              have hs1 : IntKind.i64.wrap (d - 1) = d - 1 := by rw [IntKind.wrap_i64]; omega
              have hcm : (w4.drewN m).cell? ⟨gl, j, none⟩ = some (.int .i64 d) := hcell
              clear hd had
              go_wp2_with fail
              refine (asked_any p q d w _ S R s (H4.out.1.drewN m)).mono ?_
              rintro e w5 ⟨rfl, rfl⟩
              go_wp2_with fail
              refine (asked_any p q (d + 8) w _ S R s (H4.out.1.drewN m)).mono ?_
              rintro e w5 ⟨rfl, rfl⟩
              go_wp2_with fail
              refine (asked_any p q (d - 1) w _ S R s (H4.out.1.drewN m)).mono ?_
              rintro e w5 ⟨rfl, rfl⟩
              go_wp2
              go_roundw
              case rel => exact ⟨j + 1, by omega, by go_num, m, rfl⟩
              case measure => simp [intOf]; omega
            · go_wp2
              go_ret
              exact ⟨rfl, (H4.out.1.drewN m).fr⟩
end Go.Proofs.Ytniifefmjdjebaa
