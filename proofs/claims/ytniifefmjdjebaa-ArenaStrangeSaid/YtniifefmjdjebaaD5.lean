/- Walk: ArenaStrange. -/
import Derived.Test.YtniifefmjdjebaaC2
namespace Go.Proofs.Ytniifefmjdjebaa
open Go.RowKit
set_option linter.unusedVariables false
set_option linter.unusedSimpArgs false

theorem slotE_some (x : Ob) (n : Int) : slotE (some x) n = 0 ∨ slotE (some x) n = 1 := by
  show (if n < 0 ∨ n ≥ x.vs.length then (1 : Int) else 0) = 0 ∨ (if n < 0 ∨ n ≥ x.vs.length then (1 : Int) else 0) = 1
  split
  · exact .inr rfl
  · exact .inl rfl
def memB (l : List Int) (a : Int) : Bool := decide (a ∈ l)
theorem memB_snoc (l : List Int) (k : Nat) (h : k < l.length) (a : Int) : (memB (l.take k) a || (l[k]?.getD 0 == a)) = memB (l.take (k + 1)) a := by
  rw [Bool.eq_iff_iff, List.take_succ_eq_append_getElem h, List.getElem?_eq_getElem h]
  simp only [memB, Bool.or_eq_true, decide_eq_true_eq, Option.getD_some, beq_iff_eq, List.mem_append, List.mem_singleton]
  exact ⟨fun h => h.imp id Eq.symm, fun h => h.imp id Eq.symm⟩
set_option maxRecDepth 100000 in
set_option maxHeartbeats 1000000 in
theorem ArenaStrange_any (semi : Int) (a1 : Option Addr) (len1 cap1 : Nat) (c : Nat → CallD) (a : Int) (w : World) (hs : I64 semi) (h1 : CallsIn w a1 len1 c) (ha : I64 a) :
    Calls Try.prog 9 #[.int .i64 semi, .slice a1 len1 cap1, .int .i64 a] w fun e w' => e = .returned (.bool true) ∧ Fr (fun _ => False) w w' := by
  have HI := Lib.hid h1; clear h1
  go_enter Try.func9, Try.ntmps9
  go_wp2_with fail
  refine (known_any _).mono ?_
  rintro e w1 ⟨rfl, hf1⟩
  have HF1 := Lib.hid hf1; clear hf1
  go_wp2_with fail
  refine (made_any semi a1 len1 cap1 c _ hs (HI.out.keep HF1.out)).mono ?_
  intro e w2 hm
  obtain ⟨p, S, rfl, hst⟩ := hm.st HF1.out
  have Hah := Lib.hid (madeS_ahead semi c len1)
  obtain ⟨s, hsd⟩ : ∃ s, s = madeS semi c len1 := ⟨_, rfl⟩
  rw [← hsd] at hst Hah
  clear hsd hm
  have HS := Lib.hid hst; clear hst
  go_wp2_with fail
  refine (All_any p S s _ HS.out.arena).mono ?_
  rintro e w3 ⟨vl, rfl, q1, q2, q3⟩
  have HS3 := Lib.hid (HS.out.row q1 q2 q3)
  clear q1 q2 q3 HS
  obtain ⟨s1, s2⟩ := HS3.out.small
  obtain ⟨al, cl, rfl⟩ := row_form (HS3.out.rowAt (t := s) List.mem_cons_self)
  go_wp2_with fail
  go_loopw [9, 10] (fun b i wr => ∃ k : Nat, k ≤ s.used.length ∧ i = .int .i64 k ∧ b = .bool (memB ((addrs 0 s.used).take k) a) ∧ wr = w3) (fun _ i _ => (s.used.length - intOf i).toNat)
  case atStart => exact ⟨0, by omega, rfl, rfl, rfl⟩
  case round =>
    obtain ⟨k, hk, rfl, rfl, rfl⟩ := hrel
    by_cases hlt : k < s.used.length
    · have hrow := HS3.out.rowAt (t := s) List.mem_cons_self
      obtain ⟨gl, ql, _, el, _, _, _⟩ := row_addr hrow (by omega)
      simp only [Value.slice.injEq, true_and] at el
      obtain ⟨rfl, rfl⟩ := el
      have hcell := row_int hrow hlt
      have Hstep := Lib.hid (memB_snoc (addrs 0 s.used) k (by rw [addrs_length]; exact hlt) a)
      generalize memB ((addrs 0 s.used).take k) a = b0 at *
      generalize (addrs 0 s.used)[k]?.getD 0 = x at *
      clear hrow
      cases b0 with
      | true =>
        go_wp2
        go_roundw
        case rel => exact ⟨k + 1, by omega, by go_num, by rw [← Hstep.out]; rfl, trivial⟩
        case measure => simp [intOf]; omega
      | false =>
        go_wp2
        go_roundw
        case rel => exact ⟨k + 1, by omega, by go_num, by rw [← Hstep.out]; rfl, trivial⟩
        case measure => simp [intOf]; omega
    · obtain rfl : k = s.used.length := by omega
      have hmem : memB ((addrs 0 s.used).take s.used.length) a = (findOb 0 s.used a).isSome := by
        rw [List.take_of_length_le (by rw [addrs_length]; omega)]
        unfold memB
        rw [Bool.eq_iff_iff, decide_eq_true_eq]
        exact mem_addrs _ _ _
      rw [hmem]
      clear hmem hlt
      go_wp2_with fail
      refine (Bytes_any p S s _ HS3.out.arena).mono ?_
      rintro e w6 ⟨vw, rfl, q1, q2, q3⟩
      have HS6 := Lib.hid (HS3.out.row q1 q2 q3)
      have kc := conv_row q1
      obtain ⟨aw, cw, rfl⟩ := row_form q1
      rw [List.length_map, encs_length] at kc
      obtain ⟨T, hT⟩ : ∃ T, T = strOfNums (encs s.used) := ⟨_, rfl⟩
      rw [← hT] at kc
      have HT := Lib.hid hT
      rw [List.length_map, encs_length]
      clear q1 q2 q3 HS3 hT
      go_wp2_with fail
      refine (Kind_any p a S s _ HS6.out.arena).mono ?_
      rintro e w7 ⟨rfl, rfl⟩
      go_wp2_with fail
      refine (Slots_any p a S s _ HS6.out.arena).mono ?_
      rintro e w7 ⟨rfl, rfl⟩
      go_wp2_with fail
      refine (Get_any p a 0 S s _ HS6.out.arena).mono ?_
      rintro e w8 ⟨rfl, k8, rfl⟩
      have HS8 := Lib.hid (HS6.out.drewN k8)
      clear HS6 kc
      cases hx : findOb 0 s.used a with
      | some x =>
        rw [show errI (some x) = 0 from rfl, show (some x).isSome = true from rfl]
        have hE := slotE_some x 0
        generalize slotE (some x) 0 = E at *
        generalize getV (some x) 0 = G at *
        clear hx
        rcases hE with rfl | rfl
        · go_wp2
          go_ret
          exact ⟨rfl, HS8.out.fr⟩
        · go_wp2
          go_ret
          exact ⟨rfl, HS8.out.fr⟩
      | none =>
        have HP := Lib.hid (show s.put a 0 5 = s from by unfold AS.put; rw [hx]; rfl)
        have HC := Lib.hid (show s.copyA a = 0 ∧ s.copyE a = 57 ∧ s.copy a = s from by unfold AS.copyA AS.copyE AS.copy; rw [Hah.out]; exact ⟨rfl, rfl, rfl⟩)
        rw [show errI none = 57 from rfl, show (none : Option Ob).isSome = false from rfl, show slotE none 0 = 57 from rfl, show getV none 0 = 0 from rfl]
        have Hx := Lib.hid hx
        clear hx
        go_wp2_with fail
        refine (Put_any p a 0 5 S s _ HS8.out.arena ⟨by omega, by omega⟩).mono ?_
        rw [Hx.out, HP.out, show slotE none 0 = 57 from rfl]
        rintro e w9 ⟨rfl, q1, q2⟩
        have HS9 := Lib.hid (HS8.out.put q1 q2)
        clear q1 q2 HS8
        go_wp2_with fail
        refine (Copy_any p a S s _ HS9.out.arena).mono ?_
        rw [HC.out.1, HC.out.2.1, HC.out.2.2]
        rintro e w10 ⟨rfl, q1⟩
        obtain ⟨S2, hq⟩ := HS9.out.turned q1
        have HS10 := Lib.hid hq
        clear q1 hq HS9
        go_wp2_with fail
        refine (Bytes_any p S2 s _ HS10.out.arena).mono ?_
        rintro e w11 ⟨vz, rfl, q1, q2, q3⟩
        have HS11 := Lib.hid (HS10.out.kept q2)
        have kc := conv_row q1
        obtain ⟨az, cz, rfl⟩ := row_form q1
        rw [← HT.out, List.length_map, encs_length] at kc
        rw [List.length_map, encs_length]
        clear q1 q2 q3 HS10
        go_wp2
        go_ret
        exact ⟨rfl, HS11.out.fr⟩
end Go.Proofs.Ytniifefmjdjebaa
