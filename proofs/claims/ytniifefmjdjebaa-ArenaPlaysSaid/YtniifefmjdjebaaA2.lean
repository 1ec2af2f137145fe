/- Walks: number and set. -/
import Derived.Test.YtniifefmjdjebaaRows
import Derived.Test.YtniifefmjdjebaaA1
import Derived.WalkLawsBesides
namespace Go.Proofs.Ytniifefmjdjebaa
open Go.RowKit
set_option linter.unusedVariables false
set_option linter.unusedSimpArgs false

theorem be_take_succ (l : List Int) (k : Nat) (h : k < l.length) : be (l.take (k + 1)) = be (l.take k) * 256 + l.getD k 0 := by
  rw [List.take_succ_eq_append_getElem h, be_snoc]
  simp [List.getD_eq_getElem?_getD, h]
theorem or_byte (a x : Int) (ha : 0 ≤ a ∧ a < 72057594037927936) (hx : 0 ≤ x ∧ x ≤ 255) : bits BinOp.or .u64 (IntKind.u64.wrap (a * 256)) (IntKind.u64.wrap x) = a * 256 + x := by
  obtain ⟨A, rfl⟩ := Int.eq_ofNat_of_zero_le ha.1
  obtain ⟨X, rfl⟩ := Int.eq_ofNat_of_zero_le hx.1
  rw [IntWalk.u64_in _ (by omega), IntWalk.u64_in _ (by omega)]
  have h := bits_or_u64_nat (A * 256) X (by omega) (by omega)
  rw [show ((A * 256 : Nat) : Int) = (A : Int) * 256 from by omega] at h
  rw [h, Nat.mul_comm, show (256 : Nat) = 2 ^ 8 from rfl, ← Nat.two_pow_add_eq_or_of_lt (by omega)]
  omega
theorem be_step (l : List Int) (h8 : l.length = 8) (hr : ∀ x ∈ l, 0 ≤ x ∧ x ≤ 255) (k : Nat) (hk : k < 8) :
    bits BinOp.or .u64 (IntKind.u64.wrap (be (l.take k) * 256)) (IntKind.u64.wrap (l[k]?.getD 0)) = be (l.take (k + 1)) := by
  have h1 := be_range (l.take k) (fun x hx => hr x (List.mem_of_mem_take hx))
  have h2 : 0 ≤ l[k]?.getD 0 ∧ l[k]?.getD 0 ≤ 255 := by
    rw [List.getElem?_eq_getElem (by omega)]
    exact hr _ (List.getElem_mem _)
  have h3 : (256 : Int) ^ (l.take k).length ≤ 72057594037927936 := by
    rw [List.length_take, Nat.min_eq_left (by omega)]
    have : k = 0 ∨ k = 1 ∨ k = 2 ∨ k = 3 ∨ k = 4 ∨ k = 5 ∨ k = 6 ∨ k = 7 := by omega
    rcases this with h | h | h | h | h | h | h | h <;> subst h <;> decide
  rw [or_byte _ _ ⟨h1.1, by omega⟩ h2, be_take_succ l k (by omega), List.getD_eq_getElem?_getD]
theorem u64_num (l : List Int) (h8 : l.length = 8) (hr : ∀ x ∈ l, 0 ≤ x ∧ x ≤ 255) : wrap64 (be (l.take 8)) = num l := by
  rw [List.take_of_length_le (by omega)]; rfl
set_option maxHeartbeats 400000 in
theorem number_any (p o g at' len cap : Nat) (bs : List Int) (w : World)
    (hb : w.cell? ⟨p, o, none⟩ = some (.slice (some ⟨g, 0, none⟩) len cap))
    (h8 : bs.length = 8) (hr : ∀ x ∈ bs, 0 ≤ x ∧ x ≤ 255)
    (hc : ∀ i, i < 8 → w.cell? ⟨g, at' + i, none⟩ = some (.int .u8 (bs.getD i 0)))
    (hat : at' + 8 ≤ len) (hcap : len ≤ cap) (hm : cap ≤ 9223372036854775807) :
    Calls Try.prog 68 #[.pointer (some ⟨p, o, none⟩), .int .i64 at'] w fun e w' => e = .returned (.int .i64 (num bs)) ∧ w' = w := by
  have H8 := Lib.hid h8; clear h8
  have Hr := Lib.hid hr; clear hr
  have Hc := Lib.hid hc; clear hc
  go_enter Try.func68, Try.ntmps68
  go_wp2
  go_loop [5, 7, 17] (fun v x i => ∃ k : Nat, k ≤ 8 ∧ i = .int .i64 k ∧ v = .int .u64 (be (bs.take k))) (fun _ _ i => 8 - (intOf i).toNat)
  case atStart => exact ⟨0, by omega, rfl, rfl⟩
  case round =>
    obtain ⟨k, hk, rfl, rfl⟩ := hrel
    by_cases hlt : k < 8
    · have hx := Hc.out k hlt
      have hxr : 0 ≤ bs.getD k 0 ∧ bs.getD k 0 ≤ 255 := by
        have : k < bs.length := by rw [H8.out]; exact hlt
        rw [List.getD_eq_getElem?_getD, List.getElem?_eq_getElem this]
        exact Hr.out _ (List.getElem_mem _)
      go_wp2
      go_round
      case rel => exact ⟨k + 1, by omega, by go_num, congrArg (Value.int .u64) (be_step bs H8.out Hr.out k hlt)⟩
      case measure => simp [intOf]; omega
    · obtain rfl : k = 8 := by omega
      go_wp2
      go_ret
      exact ⟨congrArg (fun x => Ending.returned (Value.int .i64 x)) (u64_num bs H8.out Hr.out), rfl⟩
end Go.Proofs.Ytniifefmjdjebaa
