/- Walk: GcTables. -/
import Derived.Test.YtniifefmjdjebaaKH
import Derived.Test.YtniifefmjdjebaaKI
import Derived.Test.YtniifefmjdjebaaKJ
namespace Go.Proofs.Ytniifefmjdjebaa
open Go.RowKit
set_option linter.unusedVariables false
set_option linter.unusedSimpArgs false
set_option maxRecDepth 100000 in
set_option maxHeartbeats 4000000 in
theorem GcTables_any (a1 : Option Addr) (n1 c1 : Nat) (A : Nat → Option Addr) (L C : Nat → Nat) (z : Nat → Nat → Int) (kind slots : Int) (w : World) (h : TabIn w a1 n1 A L C z) (hk : I64 kind) (hs : I64 slots) :
    Calls Try.prog 11 #[.slice a1 n1 c1, .int .i64 kind, .int .i64 slots] w fun e w' => e = .returned (.bool true) ∧ Fr (fun _ => False) w w' := by
  have HK := Lib.hid hk
  obtain ⟨s1, s2⟩ := hs
  have H := Lib.hid h; clear h hk
  go_enter Try.func11, Try.ntmps11
  go_wp2_with fail
  refine (gcKnown_any _).mono ?_
  rintro e w1 ⟨rfl, hf1⟩
  have HF1 := Lib.hid hf1; clear hf1
  go_wp2_with fail
  refine (table_any a1 n1 c1 A L C z _ (H.out.keep HF1.out)).mono ?_
  rintro e w2 ⟨tv, rs, rfl, q1, q2⟩
  obtain ⟨T, hT⟩ : ∃ T, T = tabT n1 L z := ⟨_, rfl⟩
  rw [← hT] at q1
  obtain ⟨at_, ct, rfl⟩ := row_form q1.row
  have H2 := Lib.hid (And.intro q1 q2)
  clear q1 q2 hT
  obtain ⟨lt, hlt⟩ : ∃ lt, lt = T.length := ⟨_, rfl⟩
  rw [← hlt] at H2 ⊢
  clear hlt
  have hm2 : min slots 500 ≤ 500 := by omega
  have hm3 : -9223372036854775808 ≤ min slots 500 := by omega
  go_wp2_with fail
  obtain ⟨sl, hsl⟩ : ∃ sl, sl = min slots 500 := ⟨_, rfl⟩
  rw [← hsl] at hm2 hm3 ⊢
  clear hsl
  refine (tabRefs_any _ T _ rs kind sl _ H2.out.1 HK.out (by omega) hm3).mono ?_
  rintro e w3 ⟨v3, rfl, q1, q2, q3⟩
  have H3 := Lib.hid (And.intro q1 q2)
  clear q1 q2 q3
  go_wp2_with fail
  refine (refRefs_any _ T _ rs kind sl _ (H2.out.1.keep H3.out.2 (fun _ _ h => h)) HK.out (by omega) hm3).mono ?_
  rintro e w4 ⟨v4, rfl, q1, q2, q3⟩
  have h3 := q2.row H3.out.1 (fun _ _ h => h)
  obtain ⟨R, hR⟩ : ∃ R, R = refsT T kind sl := ⟨_, rfl⟩
  rw [← hR, List.length_map] at q1 h3
  obtain ⟨a3, c3, rfl⟩ := row_form h3
  obtain ⟨a4, c4, rfl⟩ := row_form q1
  obtain ⟨n, hn⟩ : ∃ n, n = R.length := ⟨_, rfl⟩
  rw [← hn] at q1 h3 ⊢
  have hnm := row_maxLen h3
  have H4 := Lib.hid (And.intro h3 (And.intro q1 (show Fr (fun _ => False) w w4 from ((HF1.out.trans H2.out.2 (fun _ h => h) (fun _ _ h => h)).trans H3.out.2 (fun _ h => h) (fun _ _ h => h)).trans q2 (fun _ h => h) (fun _ _ h => h))))
  clear q1 q2 q3 h3 hn hR
  go_wp2_with fail
  go_loopw [9] (fun i wr => ∃ k : Nat, k ≤ n ∧ i = .int .i64 k ∧ ∃ m, wr = w4.drewN m) (fun i _ => (n - intOf i).toNat)
  case atStart => exact ⟨0, by omega, rfl, 0, rfl⟩
  case round =>
    obtain ⟨k, hk, rfl, m, rfl⟩ := hrel
    by_cases hlt : k < n
    · have h3 := H4.out.1
      obtain ⟨g3, d3, _, e3, _, _, _⟩ := row_addr h3 (by omega)
      simp only [Value.slice.injEq, true_and] at e3
      obtain ⟨rfl, rfl⟩ := e3
      have h4 := H4.out.2.1
      obtain ⟨g4, d4, _, e4, _, _, _⟩ := row_addr h4 (by omega)
      simp only [Value.slice.injEq, true_and] at e4
      obtain ⟨rfl, rfl⟩ := e4
      have c3 := row_int h3 hlt
      have c4 := row_int h4 hlt
      obtain ⟨y, hy⟩ : ∃ y, y = R[k]?.getD 0 := ⟨_, rfl⟩
      rw [← hy] at c3 c4
      have c3b : (w4.drewN m).cell? ⟨g3, k, none⟩ = some (.int .i64 y) := c3
      have c4b : (w4.drewN m).cell? ⟨g4, k, none⟩ = some (.int .i64 y) := c4
      clear h3 h4 hy
      go_wp2_with fail
      go_quiet (fail)
      go_wp2
      go_roundw
      case rel => exact ⟨k + 1, by omega, by go_num, _, rfl⟩
      case measure => simp [intOf]; omega
    · go_wp2
      go_ret
      exact ⟨rfl, H4.out.2.2.trans (Fr.drewN _ w4 m) (fun _ h => h) (fun _ _ h => h)⟩
end Go.Proofs.Ytniifefmjdjebaa
