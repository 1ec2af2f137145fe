/- Walk: ArenaFull. -/
import Derived.Test.YtniifefmjdjebaaC0
namespace Go.Proofs.Ytniifefmjdjebaa
open Go.RowKit
set_option linter.unusedVariables false
set_option linter.unusedSimpArgs false

/-- Whole numbers of 64 bits in a slice that came in. -/
structure IntsIn (w : World) (a : Option Addr) (len : Nat) (z : Nat → Int) : Prop where
  small : len ≤ 9223372036854775807
  cells : 0 < len → ∃ b off, a = some ⟨b, off, none⟩ ∧ ∀ i, i < len → w.cell? ⟨b, off + i, none⟩ = some (.int .i64 (z i))
  fit : ∀ i, i < len → I64 (z i)
theorem IntsIn.keep {w w' : World} {a : Option Addr} {len : Nat} {z : Nat → Int} (h : IntsIn w a len z) (hf : Fr (fun _ => False) w w') : IntsIn w' a len z :=
  ⟨h.small, fun h0 => by obtain ⟨b, off, e, hc⟩ := h.cells h0; exact ⟨b, off, e, fun i hi => hf.cell (hc i hi) id⟩, h.fit⟩
set_option maxRecDepth 100000 in
set_option maxHeartbeats 1000000 in
theorem ArenaFull_any (semi : Int) (a1 : Option Addr) (len1 cap1 : Nat) (z : Nat → Int) (w : World) (hs : I64 semi) (h1 : IntsIn w a1 len1 z) :
    Calls Try.prog 3 #[.int .i64 semi, .slice a1 len1 cap1] w fun e w' => e = .returned (.bool true) ∧ Fr (fun _ => False) w w' := by
  have hr1 := Int.emod_nonneg semi (show (3000 : Int) ≠ 0 by omega)
  have hr2 := Int.emod_lt_of_pos semi (show (0 : Int) < 3000 by omega)
  have hsm := h1.small
  have HI := Lib.hid h1; clear h1
  go_enter Try.func3, Try.ntmps3
  go_wp2_with fail
  refine (known_any _).mono ?_
  rintro e w1 ⟨rfl, hf1⟩
  have HF1 := Lib.hid hf1; clear hf1
  go_wp2_with fail
  refine (within_any semi 3000 _ hs (by omega) (by omega)).mono ?_
  rintro e w2 ⟨rfl, rfl⟩
  obtain ⟨sm, hsm2⟩ : ∃ sm, sm = semi % 3000 := ⟨_, rfl⟩
  rw [← hsm2] at hr1 hr2 ⊢
  clear hsm2
  go_wp2_with fail
  refine (New_any (256 + sm) _ (by omega) (by omega)).mono ?_
  rintro e w3 ⟨p, S, rfl, hA, hfr, hS⟩
  have HF3 := Lib.hid (HF1.out.trans hfr (fun _ h => h) (fun _ _ h => h))
  have hS' : ∀ k, S k → w.heap.size ≤ k := fun k hk => Nat.le_trans HF1.out.size (hS k hk)
  have HA := Lib.hid (And.intro hA hS')
  clear hA hfr hS hS'
  go_wp2_with fail
  go_loopw [7, 8] (fun u i wr => ∃ (k : Nat) (S : Nat → Prop) (s : AS), k ≤ 80 ∧ i = .int .i64 k ∧ u = .int .i64 (tot s.used) ∧ IsArena wr p S s ∧ (s.semi : Int) = 256 + sm ∧ Fr (fun _ => False) w wr ∧ (∀ j, S j → w.heap.size ≤ j)) (fun _ i _ => (80 - intOf i).toNat)
  case atStart => exact ⟨0, S, _, by omega, rfl, rfl, HA.out.1, by simp [AS.new]; omega, HF3.out, HA.out.2⟩
  case round =>
    obtain ⟨k, S, s, hk, rfl, rfl, hA, hsemi, hF, hS⟩ := hrel
    have hsu : tot s.used ≤ 1048576 := by
      obtain ⟨_, _, _, _, _, _, _, _, hh, _⟩ := hA
      exact hh.small
    have Hsemi := Lib.hid hsemi
    have hsemi1 : 256 ≤ (s.semi : Int) := by omega
    have hsemi2 : (s.semi : Int) ≤ 3300 := by omega
    have HA := Lib.hid hA
    have HF := Lib.hid hF
    have HS := Lib.hid hS
    clear hA hF hS hsemi
    by_cases hlt : k < len1
    · by_cases hlt2 : k < 80
      · obtain ⟨b, off, rfl, hc⟩ := (HI.out.keep HF.out).cells (by omega)
        have hcell := hc k hlt
        have hz := HI.out.fit k hlt
        clear hc
        have hz1 := Int.emod_nonneg (z k) (show (50 : Int) ≠ 0 by omega)
        have hz2 := Int.emod_lt_of_pos (z k) (show (0 : Int) < 50 by omega)
        go_wp2_with fail
        refine (within_any (z k) 50 _ hz (by omega) (by omega)).mono ?_
        rintro e w2 ⟨rfl, rfl⟩
        obtain ⟨n, hn⟩ : ∃ n, n = z k % 50 := ⟨_, rfl⟩
        rw [← hn] at hz1 hz2 ⊢
        clear hn hcell hz
        have R1 := Lib.hid (roomB_false (s := s) (n := -1) (by omega))
        have R2 := Lib.hid (roomB_false (s := s) (n := 65537) (by omega))
        by_cases hfit : (tot s.used : Int) + 16 + 8 * n ≤ 256 + sm
        · have R0 := Lib.hid (roomB_true (s := s) (n := n) ⟨by omega, by omega, by have := Hsemi.out; omega⟩)
          have E0 := Lib.hid (show s.makeE n = 0 from by unfold AS.makeE; rw [if_neg (by omega), R0.out]; rfl)
          have A0 := Lib.hid (show s.makeA n = tot s.used + 8 from if_pos E0.out)
          have M0 := Lib.hid (show s.make k n = { s with used := s.used ++ [⟨k, List.replicate n.toNat 0⟩] } from if_pos E0.out)
          go_wp2_with fail
          refine (room_any p n S s _ HA.out).mono ?_
          rw [R0.out]
          rintro e w3 ⟨rfl, k1, rfl⟩
          go_wp2_with fail
          refine (room_any p (-1) S s _ (HA.out.drewN _)).mono ?_
          rw [R1.out]
          rintro e w3 ⟨rfl, k2, rfl⟩
          go_wp2_with fail
          refine (room_any p 65537 S s _ (HA.out.drewN _)).mono ?_
          rw [R2.out]
          rintro e w3 ⟨rfl, k3, rfl⟩
          go_wp2_with fail
          refine (Make_any p k n S s _ (HA.out.drewN _) ⟨by omega, by omega⟩).mono ?_
          rw [E0.out, A0.out, M0.out]
          rintro e w3 ⟨rfl, ht⟩
          have Ht := Lib.hid (ht.drewN.frN HF.out HS.out)
          clear ht
          go_wp2
          go_roundw
          case rel =>
            obtain ⟨S', g1, g2, g3⟩ := Ht.out
            exact ⟨k + 1, S', _, by omega, by go_num, by rw [tot_append, tot_cons, tot_nil]; simp [Ob.size]; omega, g1, Hsemi.out, g2, g3⟩
          case measure => simp [intOf]; omega
        · have R0 := Lib.hid (roomB_false (s := s) (n := n) (by have := Hsemi.out; omega))
          have E0 := Lib.hid (show s.makeE n = 7 from by unfold AS.makeE; rw [if_neg (by omega), R0.out]; rfl)
          have A0 := Lib.hid (show s.makeA n = 0 from if_neg (by rw [E0.out]; decide))
          have M0 := Lib.hid (show s.make k n = s from if_neg (by rw [E0.out]; decide))
          have hb : decide ((tot s.used : Int) + 16 + 8 * n ≤ 256 + sm) = false := by simpa using hfit
          go_wp2_with fail
          refine (room_any p n S s _ HA.out).mono ?_
          rw [R0.out]
          rintro e w3 ⟨rfl, k1, rfl⟩
          go_wp2_with fail
          refine (room_any p (-1) S s _ (HA.out.drewN _)).mono ?_
          rw [R1.out]
          rintro e w3 ⟨rfl, k2, rfl⟩
          go_wp2_with fail
          refine (room_any p 65537 S s _ (HA.out.drewN _)).mono ?_
          rw [R2.out]
          rintro e w3 ⟨rfl, k3, rfl⟩
          go_wp2_with fail
          refine (Make_any p k n S s _ (HA.out.drewN _) ⟨by omega, by omega⟩).mono ?_
          rw [E0.out, A0.out, M0.out]
          rintro e w3 ⟨rfl, ht⟩
          have Ht := Lib.hid (ht.drewN.frN HF.out HS.out)
          clear ht
          go_wp2
          go_roundw
          case rel =>
            obtain ⟨S', g1, g2, g3⟩ := Ht.out
            exact ⟨k + 1, S', s, by omega, by go_num, rfl, g1, Hsemi.out, g2, g3⟩
          case measure => simp [intOf]; omega
      · go_wp2_with fail
        refine (Used_any p S s _ HA.out).mono ?_
        rintro e w2 ⟨rfl, rfl⟩
        go_wp2_with fail
        refine (Bytes_any p S s _ HA.out).mono ?_
        rintro e w3 ⟨v, rfl, hv, hf, _⟩
        obtain ⟨av, cv, rfl⟩ := row_form hv
        have Hl := Lib.hid (show ((encs s.used).map (Value.int .u8)).length = tot s.used from by rw [List.length_map, encs_length])
        have Hf := Lib.hid (HF.out.trans hf (fun _ h => h) (fun _ _ h => h))
        rw [Hl.out] at hv ⊢
        clear hf hv
        go_wp2
        go_ret
        exact ⟨rfl, Hf.out⟩
    · go_wp2_with fail
      refine (Used_any p S s _ HA.out).mono ?_
      rintro e w2 ⟨rfl, rfl⟩
      go_wp2_with fail
      refine (Bytes_any p S s _ HA.out).mono ?_
      rintro e w3 ⟨v, rfl, hv, hf, _⟩
      obtain ⟨av, cv, rfl⟩ := row_form hv
      have Hl := Lib.hid (show ((encs s.used).map (Value.int .u8)).length = tot s.used from by rw [List.length_map, encs_length])
      have Hf := Lib.hid (HF.out.trans hf (fun _ h => h) (fun _ _ h => h))
      rw [Hl.out] at hv ⊢
      clear hf hv
      go_wp2
      go_ret
      exact ⟨rfl, Hf.out⟩
end Go.Proofs.Ytniifefmjdjebaa
