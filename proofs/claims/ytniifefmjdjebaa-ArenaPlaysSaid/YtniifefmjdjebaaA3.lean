/- Walk: set. -/
import Derived.Test.YtniifefmjdjebaaA2
namespace Go.Proofs.Ytniifefmjdjebaa
open Go.RowKit
set_option linter.unusedVariables false
set_option linter.unusedSimpArgs false

/-- Eight bytes of a row, turned to those of n. -/
def put8 (bs : List Int) (a : Nat) (n : Int) : List Int := bs.take a ++ w8 n ++ bs.drop (a + 8)
def putK (bs : List Int) (a : Nat) (n : Int) (k : Nat) : List Int := bs.take (a + 8 - k) ++ (w8 n).drop (8 - k) ++ bs.drop (a + 8)
theorem grown_trans {a b c : World} {row : Option Nat} (h : a.grownBy b row) (k : b.grownBy c row) : a.grownBy c row :=
  ⟨k.os.trans h.os, k.tape.trans h.tape, k.output.trans h.output, Nat.le_trans h.size k.size, fun i hi hn => (k.block i (Nat.lt_of_lt_of_le hi h.size) hn).trans (h.block i hi hn)⟩
theorem cut8 (bs : List Int) (a : Nat) (h : a + 8 ≤ bs.length) : ∃ A b0 b1 b2 b3 b4 b5 b6 b7 C, bs = A ++ [b0, b1, b2, b3, b4, b5, b6, b7] ++ C ∧ A.length = a := by
  have h1 : bs = bs.take a ++ (bs.drop a).take 8 ++ bs.drop (a + 8) := by
    rw [List.append_assoc, show bs.drop (a + 8) = (bs.drop a).drop 8 from by rw [List.drop_drop], List.take_append_drop, List.take_append_drop]
  have h2 : ((bs.drop a).take 8).length = 8 := by simp; omega
  have h3 : (bs.take a).length = a := by simp; omega
  match hm : (bs.drop a).take 8, h2 with
  | [b0, b1, b2, b3, b4, b5, b6, b7], _ => exact ⟨bs.take a, b0, b1, b2, b3, b4, b5, b6, b7, bs.drop (a + 8), by rw [hm] at h1; exact h1, h3⟩
theorem putK_step (bs : List Int) (a : Nat) (n : Int) (k : Nat) (h : a + 8 ≤ bs.length) (hk : k < 8) : (putK bs a n k).set (a + (7 - k)) (IntKind.u8.wrap (n / 256 ^ k)) = putK bs a n (k + 1) := by
  obtain ⟨A, b0, b1, b2, b3, b4, b5, b6, b7, C, rfl, rfl⟩ := cut8 bs a h
  have : k = 0 ∨ k = 1 ∨ k = 2 ∨ k = 3 ∨ k = 4 ∨ k = 5 ∨ k = 6 ∨ k = 7 := by omega
  rw [IntKind.wrap_u8]
  rcases this with h | h | h | h | h | h | h | h <;> subst h <;>
    simp [putK, w8, byteAt, List.take_append, List.drop_append, List.set_append, List.append_assoc] <;> rw [List.take_of_length_le (by omega)]
theorem putK_zero (bs : List Int) (a : Nat) (n : Int) (h : a + 8 ≤ bs.length) : putK bs a n 0 = bs := by
  simp [putK, w8]
theorem putK_eight (bs : List Int) (a : Nat) (n : Int) : putK bs a n 8 = put8 bs a n := by
  simp [putK, put8]
theorem putK_length (bs : List Int) (a : Nat) (n : Int) (k : Nat) (h : a + 8 ≤ bs.length) (hk : k ≤ 8) : (putK bs a n k).length = bs.length := by
  simp [putK, w8_length]; omega
theorem put8_length (bs : List Int) (a : Nat) (n : Int) (h : a + 8 ≤ bs.length) : (put8 bs a n).length = bs.length := by
  rw [← putK_eight, putK_length _ _ _ _ h (by omega)]
theorem div_pow (n : Int) (k : Nat) : n / 256 ^ k / 256 = n / 256 ^ (k + 1) := by
  rw [Int.pow_succ, Int.ediv_ediv_of_nonneg (by exact Int.pow_nonneg (by omega))]
set_option maxHeartbeats 400000 in
theorem set_any (p o g at' len cap : Nat) (n : Int) (bs : List Int) (w : World)
    (hb : w.cell? ⟨p, o, none⟩ = some (.slice (some ⟨g, 0, none⟩) len cap)) (hpg : p ≠ g)
    (hown : w.ownsRow 0 5 1 (.slice (some ⟨g, 0, none⟩) len cap) len (bs.map (Value.int .u8)))
    (hat : at' + 8 ≤ len) (hm : len ≤ 9223372036854775807) :
    Calls Try.prog 64 #[.pointer (some ⟨p, o, none⟩), .int .i64 at', .int .i64 n] w fun e w' => e = .returned (.tuple #[]) ∧
      w'.ownsRow 0 5 1 (.slice (some ⟨g, 0, none⟩) len cap) len ((put8 bs at' n).map (Value.int .u8)) ∧ w.grownBy w' (some g) := by
  have HL : at' + 8 ≤ bs.length := by have := hown.1; simp at this; omega
  have Hown := Lib.hid hown; clear hown
  go_enter Try.func64, Try.ntmps64
  go_wp2
  go_loopw [2, 6] (fun v i wr => ∃ k : Nat, k ≤ 8 ∧ i = .int .i64 (7 - k) ∧ v = .int .i64 (n / 256 ^ k) ∧ wr.ownsRow 0 5 1 (.slice (some ⟨g, 0, none⟩) len cap) len ((putK bs at' n k).map (Value.int .u8)) ∧ w.grownBy wr (some g)) (fun _ i _ => (intOf i + 1).toNat)
  case atStart => exact ⟨0, by omega, by go_num, by simp, by rw [putK_zero _ _ _ HL]; exact Hown.out, ⟨rfl, rfl, rfl, Nat.le_refl _, fun _ _ _ => rfl⟩⟩
  case round =>
    obtain ⟨k, hk, rfl, rfl, hown, hgr⟩ := hrel
    have hb1 : wr.cell? ⟨p, o, none⟩ = some (.slice (some ⟨g, 0, none⟩) len cap) := hgr.cell hb (by simpa using hpg)
    by_cases hlt : k < 8
    · have hfz : ∀ j, wr.frozen? ⟨g, j, none⟩ = false := hown.frozenAt
      have hcell : ∃ u, wr.cell? ⟨g, at' + (7 - k), none⟩ = some u := by
        refine ⟨_, (hown.cellAt (at' + (7 - k)) (by omega)).trans (List.getElem?_eq_getElem (by simp [putK_length bs at' n k HL (by omega)]; omega))⟩
      obtain ⟨u, hcell⟩ := hcell
      have Hown2 := Lib.hid hown; clear hown
      have Hgr2 := Lib.hid hgr; clear hgr
      go_wp2
      go_roundw
      case rel =>
        have h1 := Hown2.out.stored (at' + (7 - k)) (.int .u8 (IntKind.u8.wrap (n / 256 ^ k)))
        rw [← List.map_set, putK_step bs at' n k HL hlt] at h1
        exact ⟨k + 1, by omega, by go_num, by rw [div_pow], h1.1, grown_trans Hgr2.out h1.2⟩
      case measure => simp [intOf]; omega
    · obtain rfl : k = 8 := by omega
      go_wp2
      rw [putK_eight] at hown
      go_end0
      exact ⟨rfl, hown, hgr⟩
end Go.Proofs.Ytniifefmjdjebaa
