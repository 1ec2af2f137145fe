/- Walk: Same, and what it leaves: all that was there. -/
import Derived.Test.YtniifefmjdjebaaKF
namespace Go.Proofs.Ytniifefmjdjebaa
open Go.RowKit
set_option linter.unusedVariables false
set_option linter.unusedSimpArgs false
set_option maxRecDepth 100000 in
set_option maxHeartbeats 8000000 in
theorem Same2_any (p q : Nat) (w : World) (S R : Nat → Prop) (s : AS) (ha : IsArena w p S s) (hr : IsRef w q R s) :
    Calls Try.prog 38 #[.pointer (some ⟨p, 0, none⟩), .pointer (some ⟨q, 0, none⟩)] w fun e w' => e = .returned (.bool true) ∧ Fr (fun _ => False) w w' := by
  have HA := Lib.hid (fun (W : World) (hW : Fr (fun _ => False) (w.drewN 1) W) => (ha.drewN 1).keep hW (fun _ _ h => h))
  have HR := Lib.hid (fun (W : World) (hW : Fr (fun _ => False) (w.drewN 1) W) => (hr.drewN 1).keep hW (fun _ _ h => h))
  have H0 := Lib.hid (Fr.refl (fun _ => False) (w.drewN 1))
  have HG := Lib.hid ha.good
  have hru := hr.usedCell
  clear ha hr
  obtain ⟨tt, htt⟩ : ∃ n, n = tot s.used := ⟨_, rfl⟩
  have Htt := Lib.hid htt
  rw [← htt] at hru
  clear htt
  obtain ⟨T, hT⟩ : ∃ T, T = strOfNums (encs s.used) := ⟨_, rfl⟩
  have HT := Lib.hid hT
  clear hT
  go_enter Try.func38, Try.ntmps38
  go_wp2_with fail
  have c1b : w.drew.cell? ⟨q, 1, none⟩ = some (.int .i64 tt) := hru
  go_region_with (first
      | (go_at_call 24; refine (Used_any p S s _ (HA.out _ H0.out)).mono ?_; rw [← Htt.out]; rintro e w1 ⟨rfl, rfl⟩)
      | (go_at_call 27; refine (All_any p S s _ (HA.out _ H0.out)).mono ?_; rintro e w1 ⟨v1, rfl, r1, r2, r3⟩; have H1 := Lib.hid r2; have Ra := Lib.hid r1; clear r1 r2 r3)
      | (go_at_call 41; refine (refAll_any q R s _ (HR.out _ H1.out) HG.out).mono ?_; rintro e w2 ⟨v2, rfl, r1, r2, r3⟩; have H2 := Lib.hid (H1.out.trans r2 (fun _ h => h) (fun _ _ h => h)); have Rb := Lib.hid (And.intro (r2.row Ra.out (fun _ _ h => h)) r1); clear r1 r2 r3)
      | (go_at_call 29; refine (SameWords_any v1 v2 (addrs 0 s.used) (addrs 0 s.used) _ (by simpa only [List.length_map] using Rb.out.1) (by simpa only [List.length_map] using Rb.out.2)).mono ?_; rw [show sameW (addrs 0 s.used) (addrs 0 s.used) = true from decide_eq_true rfl]; rintro e w3 ⟨rfl, nd, hw3⟩; have H3 := Lib.hid (show Fr (fun _ => False) (w.drewN 1) w3 from by rw [hw3]; exact H2.out.trans (Fr.drewN _ w2 nd) (fun _ h => h) (fun _ _ h => h)); clear hw3)
      | (go_at_call 25; refine (Bytes_any p S s _ (HA.out _ H3.out)).mono ?_; rintro e w4 ⟨v4, rfl, r1, r2, r3⟩; have H4 := Lib.hid (H3.out.trans r2 (fun _ h => h) (fun _ _ h => h)); have Rc := Lib.hid r1; have k4 := conv_row r1; rw [← HT.out] at k4; clear r1 r2 r3)
      | (go_at_call 75; refine (refBytes_any q R s _ (HR.out _ H4.out) HG.out).mono ?_; rintro e w5 ⟨v5, rfl, r1, r2, r3⟩; have H5 := Lib.hid (H4.out.trans r2 (fun _ h => h) (fun _ _ h => h)); have k5 := conv_row r1; have k6 := conv_row (r2.row Rc.out (fun _ _ h => h)); rw [← HT.out] at k5 k6; clear r1 r2 r3))
  all_goals (go_wp2; go_ret; exact ⟨rfl, (Fr.drewN _ w 1).trans H5.out (fun _ h => h) (fun _ _ h => h)⟩)
end Go.Proofs.Ytniifefmjdjebaa
