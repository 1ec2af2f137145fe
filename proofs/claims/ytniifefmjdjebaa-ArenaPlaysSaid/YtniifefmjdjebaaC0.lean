/- Walks of the law's helpers: known, within. -/
import Derived.Test.YtniifefmjdjebaaB1
namespace Go.Proofs.Ytniifefmjdjebaa
open Go.RowKit
set_option linter.unusedVariables false
set_option linter.unusedSimpArgs false

/-- A turned arena, taken apart. -/
theorem Turned.frN {w w' : World} {p : Nat} {S : Nat → Prop} {s : AS} (h : Turned w w' p S s) {w0 : World} (h0 : Fr (fun _ => False) w0 w) (hS : ∀ k, S k → w0.heap.size ≤ k) :
    ∃ S', IsArena w' p S' s ∧ Fr (fun _ => False) w0 w' ∧ ∀ k, S' k → w0.heap.size ≤ k := by
  obtain ⟨S', h1, h2, h3⟩ := h
  refine ⟨S', h1, h0.trans h2 (fun _ h => h) (fun i hi h => by have := hS i h; omega), fun k hk => ?_⟩
  rcases h3 k hk with h | h
  · exact hS k h
  · have := h0.size; omega
set_option maxRecDepth 100000 in
set_option maxHeartbeats 1000000 in
theorem known_any (w : World) : Calls Try.prog 19 #[] w fun e w' => e = .returned (.bool true) ∧ Fr (fun _ => False) w w' := by
  have E := Lib.hid (show (AS.new 256).makeA 2 = 8 ∧ (AS.new 256).makeE 2 = 0 ∧ ((AS.new 256).make 1 2).makeA 0 = 40 ∧ ((AS.new 256).make 1 2).makeE 0 = 0 from by decide)
  generalize hs1 : (AS.new 256).make 1 2 = s1 at E
  generalize hs2 : s1.make (-1) 0 = s2
  have E2 := Lib.hid (show (AS.copyA ⟨[], s2.used, fun _ => none, s2.semi⟩ 40) = 8 ∧ (AS.copyE ⟨[], s2.used, fun _ => none, s2.semi⟩ 40) = 0 from by rw [← hs2, ← hs1]; decide)
  generalize hs3 : AS.copy ⟨[], s2.used, fun _ => none, s2.semi⟩ 40 = s3
  have E3 := Lib.hid (show s3.copyA 8 = 24 ∧ s3.copyE 8 = 0 from by rw [← hs3, ← hs2, ← hs1]; decide)
  generalize hs4 : s3.copy 8 = s4
  have E4 := Lib.hid (show tot s4.used = 48 from by rw [← hs4, ← hs3, ← hs2, ← hs1]; decide)
  have Hs := Lib.hid (And.intro hs1 (And.intro hs2 (And.intro hs3 hs4)))
  clear hs1 hs2 hs3 hs4
  go_enter Try.func19, Try.ntmps19
  go_wp2_with fail
  refine (New_any 256 _ (by omega) (by omega)).mono ?_
  rintro e w1 ⟨p, S, rfl, hA, hfr, hS⟩
  have H1 := Lib.hid (And.intro hA (And.intro hfr hS)); clear hA hfr hS
  go_wp2_with fail
  refine (Make_any p 1 2 S _ _ H1.out.1 ⟨by omega, by omega⟩).mono ?_
  rw [Hs.out.1, E.out.1, E.out.2.1]
  rintro e w2 ⟨rfl, ht⟩
  have H2 := Lib.hid (ht.frN H1.out.2.1 H1.out.2.2); clear ht H1 S
  go_wp2_with fail
  obtain ⟨S, hA, hfr, hS⟩ := H2.out
  refine (Make_any p (-1) 0 S _ _ hA ⟨by omega, by omega⟩).mono ?_
  rw [Hs.out.2.1, E.out.2.2.1, E.out.2.2.2]
  rintro e w3 ⟨rfl, ht⟩
  have H3 := Lib.hid (ht.frN hfr hS); clear ht H2 hA hfr hS S
  go_wp2_with fail
  obtain ⟨S, hA, hfr, hS⟩ := H3.out
  refine (Flip_any p S _ _ hA).mono ?_
  rintro e w4 ⟨rfl, ht⟩
  have H4 := Lib.hid (ht.frN hfr hS); clear ht H3 hA hfr hS S
  go_wp2_with fail
  obtain ⟨S, hA, hfr, hS⟩ := H4.out
  refine (Copy_any p 40 S _ _ hA).mono ?_
  rw [Hs.out.2.2.1, E2.out.1, E2.out.2]
  rintro e w5 ⟨rfl, ht⟩
  have H5 := Lib.hid (ht.frN hfr hS); clear ht H4 hA hfr hS S
  go_wp2_with fail
  obtain ⟨S, hA, hfr, hS⟩ := H5.out
  refine (Copy_any p 8 S _ _ hA).mono ?_
  rw [Hs.out.2.2.2, E3.out.1, E3.out.2]
  rintro e w6 ⟨rfl, ht⟩
  have H6 := Lib.hid (ht.frN hfr hS); clear ht H5 hA hfr hS S
  go_wp2_with fail
  obtain ⟨S, hA, hfr, hS⟩ := H6.out
  refine (Used_any p S _ _ hA).mono ?_
  rw [E4.out]
  rintro e w7 ⟨rfl, rfl⟩
  have Hf := Lib.hid hfr
  clear hA hfr hS H6
  go_wp2
  go_ret
  exact ⟨rfl, Hf.out⟩
theorem tmod_cases (a n : Int) (h0 : a < 0) (hn : 1 ≤ n) : (a.tmod n = 0 ∧ a % n = 0) ∨ (a.tmod n < 0 ∧ a.tmod n + n = a % n) := by
  have hr := Int.emod_nonneg a (show n ≠ 0 by omega)
  have hlt := Int.emod_lt_of_pos a (show 0 < n by omega)
  have h := Int.tmod_eq_emod (a := a) (b := n)
  by_cases hd : n ∣ a
  · left
    have := Int.emod_eq_zero_of_dvd hd
    rw [if_pos (.inr hd)] at h
    omega
  · right
    rw [if_neg (by rintro (h | h); omega; exact hd h)] at h
    omega
set_option maxHeartbeats 400000 in
theorem within_any (a n : Int) (w : World) (ha : I64 a) (hn : 1 ≤ n) (hm : n ≤ 1048576) : Calls Try.prog 20 #[.int .i64 a, .int .i64 n] w fun e w' => e = .returned (.int .i64 (a % n)) ∧ w' = w := by
  obtain ⟨h1, h2⟩ := ha
  have hr := Int.emod_nonneg a (show n ≠ 0 by omega)
  have hlt := Int.emod_lt_of_pos a (show 0 < n by omega)
  have hne : (n == 0) = false := by simp; omega
  by_cases h0 : 0 ≤ a
  · go_enter Try.func20, Try.ntmps20
    go_wp2
    go_ret
    exact ⟨rfl, rfl⟩
  · rcases tmod_cases a n (by omega) hn with ⟨h3, h4⟩ | ⟨h3, h4⟩
    · have H3 := Lib.hid h3
      have H4 := Lib.hid h4
      have h5 : 0 ≤ a.tmod n := by omega
      have h6 : a.tmod n ≤ 0 := by omega
      clear h3 h4
      go_enter Try.func20, Try.ntmps20
      go_wp2
      go_ret
      exact ⟨by rw [H4.out, ← H3.out]; rfl, rfl⟩
    · have H4 := Lib.hid h4
      have h5 : 0 ≤ a.tmod n + n := by omega
      have h6 : a.tmod n + n ≤ n := by omega
      clear h4
      go_enter Try.func20, Try.ntmps20
      go_wp2
      go_ret
      exact ⟨by rw [← H4.out]; rfl, rfl⟩
end Go.Proofs.Ytniifefmjdjebaa
