/- Walk: Same. -/
import Derived.Test.YtniifefmjdjebaaF8
import Derived.BigRegion
namespace Go.Proofs.Ytniifefmjdjebaa
open Go.RowKit
set_option linter.unusedVariables false
set_option linter.unusedSimpArgs false
theorem IsRef.usedCell {w : World} {q : Nat} {R : Nat → Prop} {s : AS} (h : IsRef w q R s) : w.cell? ⟨q, 1, none⟩ = some (.int .i64 (tot s.used : Nat)) := by
  obtain ⟨vl, va, hl, ha, tl, h1, h2⟩ := h
  exact blk_cell h1.top 1
set_option maxRecDepth 100000 in
set_option maxHeartbeats 8000000 in
theorem Same_any (p q : Nat) (w0 w : World) (S R : Nat → Prop) (s : AS) (L : List (Nat × CallD)) (h : TwoC w0 w p S s q R s L) :
    Calls Try.prog 38 #[.pointer (some ⟨p, 0, none⟩), .pointer (some ⟨q, 0, none⟩)] w fun e w' => e = .returned (.bool true) ∧ TwoC w0 w' p S s q R s L := by
  have HD := Lib.hid (h.drewN 1)
  have HG := Lib.hid h.two.a.good
  clear h
  obtain ⟨tt, htt⟩ : ∃ n, n = tot s.used := ⟨_, rfl⟩
  have Htt := Lib.hid htt
  clear htt
  obtain ⟨T, hT⟩ : ∃ T, T = strOfNums (encs s.used) := ⟨_, rfl⟩
  have HT := Lib.hid hT
  clear hT
  go_enter Try.func38, Try.ntmps38
  go_wp2_with fail
  have c1 : w.cell? ⟨q, 1, none⟩ = some (.int .i64 tt) := by rw [Htt.out]; exact HD.out.two.r.usedCell
  have c1b : w.drew.cell? ⟨q, 1, none⟩ = some (.int .i64 tt) := c1
  go_region_with (first
      | (go_at_call 24; refine (Used_any p S s _ HD.out.two.a).mono ?_; rw [← Htt.out]; rintro e w1 ⟨rfl, rfl⟩)
      | (go_at_call 27; refine (All_any p S s _ HD.out.two.a).mono ?_; rintro e w1 ⟨v1, rfl, r1, r2, r3⟩; have H1 := Lib.hid (HD.out.kept r2); have Ra := Lib.hid r1; clear r1 r2 r3)
      | (go_at_call 41; refine (refAll_any q R s _ H1.out.two.r HG.out).mono ?_; rintro e w2 ⟨v2, rfl, r1, r2, r3⟩; have H2 := Lib.hid (H1.out.kept r2); have Rb := Lib.hid (And.intro (r2.row Ra.out (fun _ _ h => h)) r1); clear r1 r2 r3)
      | (go_at_call 29; refine (SameWords_any v1 v2 (addrs 0 s.used) (addrs 0 s.used) _ (by simpa only [List.length_map] using Rb.out.1) (by simpa only [List.length_map] using Rb.out.2)).mono ?_; rw [show sameW (addrs 0 s.used) (addrs 0 s.used) = true from decide_eq_true rfl]; rintro e w3 ⟨rfl, nd, hw3⟩; have H3 := Lib.hid (show TwoC w0 w3 p S s q R s L from by rw [hw3]; exact H2.out.drewN nd); clear hw3)
      | (go_at_call 25; refine (Bytes_any p S s _ H3.out.two.a).mono ?_; rintro e w4 ⟨v4, rfl, r1, r2, r3⟩; have H4 := Lib.hid (H3.out.kept r2); have Rc := Lib.hid r1; have k4 := conv_row r1; rw [← HT.out] at k4; clear r1 r2 r3)
      | (go_at_call 75; refine (refBytes_any q R s _ H4.out.two.r HG.out).mono ?_; rintro e w5 ⟨v5, rfl, r1, r2, r3⟩; have H5 := Lib.hid (H4.out.kept r2); have k5 := conv_row r1; have k6 := conv_row (r2.row Rc.out (fun _ _ h => h)); rw [← HT.out] at k5 k6; clear r1 r2 r3))
  all_goals (go_wp2; go_ret; exact ⟨rfl, H5.out⟩)
end Go.Proofs.Ytniifefmjdjebaa
