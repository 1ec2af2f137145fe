/- Walk: ArenaBytes. -/
import Derived.Test.YtniifefmjdjebaaC2
import Derived.Deep.DeepCutAuto
import Derived.Deep.CutBlock
namespace Go.Proofs.Ytniifefmjdjebaa
open Go.RowKit
set_option linter.unusedVariables false
set_option linter.unusedSimpArgs false

theorem cut_at (l : List Ob) (i : Nat) (h : i < l.length) : l = l.take i ++ l[i] :: l.drop (i + 1) := by
  rw [← List.drop_eq_getElem_cons h, List.take_append_drop]
theorem addrs_get : ∀ (l : List Ob) (off i : Nat), i < l.length → (addrs off l)[i]?.getD 0 = (off : Int) + tot (l.take i) + 8
  | [], _, _, h => by simp at h
  | x :: l, off, 0, _ => by simp [addrs, tot_nil]
  | x :: l, off, i + 1, h => by
    have := addrs_get l (off + x.size) i (by simpa using h)
    simp only [addrs, List.getElem?_cons_succ, List.take_succ_cons, tot_cons]
    rw [this]
    omega
theorem find_get (l : List Ob) (i : Nat) (h : i < l.length) : findOb 0 l ((tot (l.take i) : Int) + 8) = some l[i] := by
  have := findOb_at (l.take i) l[i] (l.drop (i + 1)) 0
  rw [← cut_at l i h] at this
  rw [show (tot (l.take i) : Int) + 8 = ((0 + tot (l.take i) + 8 : Nat) : Int) from by omega]
  exact this
theorem tot_take_succ (l : List Ob) (i : Nat) (h : i < l.length) : tot (l.take (i + 1)) = tot (l.take i) + 16 + 8 * l[i].vs.length := by
  rw [List.take_succ_eq_append_getElem h, tot_append, tot_cons, tot_nil]
  simp [Ob.size]; omega
theorem tot_take_le (l : List Ob) (i : Nat) : tot (l.take i) ≤ tot l := by
  have : tot l = tot (l.take i) + tot (l.drop i) := by rw [← tot_append, List.take_append_drop]
  omega
theorem words_get (l : List Ob) (i : Nat) (h : i < l.length) : ((encs l).drop (tot (l.take i))).take 8 = w8 l[i].kind ∧ ((encs l).drop (tot (l.take i) + 8)).take 8 = w8 l[i].vs.length ∧
    ∀ k, k < l[i].vs.length → ((encs l).drop (tot (l.take i) + 16 + 8 * k)).take 8 = w8 (l[i].vs[k]?.getD 0) := by
  have e := cut_at l i h
  refine ⟨?_, ?_, fun k hk => ?_⟩
  · have := encs_kind (l.take i) l[i] (l.drop (i + 1)); rw [← e] at this; exact this
  · have := encs_slots (l.take i) l[i] (l.drop (i + 1)); rw [← e] at this; exact this
  · have := encs_slot (l.take i) l[i] (l.drop (i + 1)) k hk; rw [← e] at this; rw [List.getElem?_eq_getElem hk]; exact this
theorem addrs_put (s : AS) (a n v : Int) : addrs 0 (s.put a n v).used = addrs 0 s.used := by
  unfold AS.put; split
  · exact addrs_setOb _ _ _ _ _
  · rfl
theorem length_of_addrs {l r : List Ob} (h : addrs 0 l = addrs 0 r) : l.length = r.length := by rw [← addrs_length l 0, h, addrs_length]
theorem St.okAt {w0 w : World} {p : Nat} {S : Nat → Prop} {s : AS} {R : List KRow} (h : St w0 w p S s R) : ∀ x ∈ s.used, x.ok := by
  obtain ⟨_, _, _, _, hh⟩ := h.arena.used
  exact hh.ok
set_option maxRecDepth 100000 in
set_option maxHeartbeats 2000000 in
theorem ArenaBytes_any (semi : Int) (a1 : Option Addr) (len1 cap1 : Nat) (c : Nat → CallD) (w : World) (hs : I64 semi) (h1 : CallsIn w a1 len1 c) :
    Calls Try.prog 10 #[.int .i64 semi, .slice a1 len1 cap1] w fun e w' => e = .returned (.bool true) ∧ Fr (fun _ => False) w w' := by
  have hsm := h1.small
  have HI := Lib.hid h1; clear h1
  go_enter Try.func10, Try.ntmps10
  go_wp2_with fail
  refine (known_any _).mono ?_
  rintro e w1 ⟨rfl, hf1⟩
  have HF1 := Lib.hid hf1; clear hf1
  go_wp2_with fail
  refine (made_any semi a1 len1 cap1 c _ hs (HI.out.keep HF1.out)).mono ?_
  intro e w2 hm
  obtain ⟨p, S, rfl, hst⟩ := hm.st HF1.out
  obtain ⟨s, hsd⟩ : ∃ s, s = madeS semi c len1 := ⟨_, rfl⟩
  rw [← hsd] at hst
  clear hsd hm
  have HS := Lib.hid hst; clear hst
  go_wp2_with fail
  refine (All_any p S s _ HS.out.arena).mono ?_
  rintro e w3 ⟨vl, rfl, q1, q2, q3⟩
  have HS3 := Lib.hid (HS.out.row q1 q2 q3)
  clear q1 q2 q3 HS
  obtain ⟨s1, s2⟩ := HS3.out.small
  obtain ⟨al, cl, rfl⟩ := row_form (HS3.out.rowAt (t := s) List.mem_cons_self)
  go_upto_block 0 with fail
  go_cut [7] (fun i wr => ∃ (S : Nat → Prop) (t : AS), addrs 0 t.used = addrs 0 s.used ∧ St w wr p S t [rowA (.slice al s.used.length cl) s])
  case first =>
    go_wp2_with fail
    go_loopw [7] (fun i wr => ∃ (k : Nat) (S : Nat → Prop) (t : AS), k ≤ 60 ∧ k ≤ len1 ∧ i = .int .i64 k ∧ addrs 0 t.used = addrs 0 s.used ∧ St w wr p S t [rowA (.slice al s.used.length cl) s]) (fun i _ => (60 - intOf i).toNat)
    case atStart => exact ⟨0, S, s, by omega, by omega, rfl, rfl, HS3.out⟩
    case round =>
      obtain ⟨k, S, t, hk, hk2, rfl, hadr, hst⟩ := hrel
      have Hadr := Lib.hid hadr
      have HSt := Lib.hid hst
      clear hadr hst
      by_cases hgo : k < len1 ∧ k < 60 ∧ 0 < s.used.length
      · obtain ⟨g1, g2, g3⟩ := hgo
        obtain ⟨b, off, rfl, hc⟩ := (HI.out.keep HSt.out.fr).cells (by omega)
        obtain ⟨e1, e2, e3, e4, e5⟩ := hc k g1
        obtain ⟨f1, f2, f3, f4, f5⟩ := HI.out.fit k g1
        have Hfit := Lib.hid (And.intro f2 (And.intro f3 f5))
        obtain ⟨gl, ql, _, el, _, _, _⟩ := row_addr (HSt.out.rowAt (t := s) List.mem_cons_self) g3
        simp only [Value.slice.injEq, true_and] at el
        obtain ⟨rfl, rfl⟩ := el
        have hr1 := Int.emod_nonneg (c k).n (show (s.used.length : Int) ≠ 0 by omega)
        have hr2 := Int.emod_lt_of_pos (c k).n (show (0 : Int) < s.used.length by omega)
        obtain ⟨i, hi⟩ := Int.eq_ofNat_of_zero_le hr1
        have hil : i < s.used.length := by omega
        have hcx := row_int (HSt.out.rowAt (t := s) List.mem_cons_self) hil
        have W1 := Lib.hid (fun W => (within_any (c k).n s.used.length W f2 (by omega) (by omega)).mono (R' := fun e w' => e = .returned (.int .i64 i) ∧ w' = W) (by rintro e w' ⟨rfl, rfl⟩; exact ⟨by rw [hi], rfl⟩))
        obtain ⟨a, ha⟩ : ∃ a, a = (addrs 0 s.used)[i]?.getD 0 := ⟨_, rfl⟩
        rw [← ha] at hcx
        obtain ⟨m, hm⟩ : ∃ m, m = (c k).m := ⟨_, rfl⟩
        obtain ⟨n, hn⟩ : ∃ m, m = (c k).n := ⟨_, rfl⟩
        obtain ⟨v, hv⟩ : ∃ m, m = (c k).v := ⟨_, rfl⟩
        rw [← hm] at e3 Hfit
        rw [← hn] at e2 Hfit W1
        rw [← hv] at e5 Hfit
        clear hc e1 e4 f1 f2 f3 f4 f5 hr1 hr2 hi ha hm hn hv
        go_wp2_with fail
        go_still_tail 23, (by kernel_rfl)
        still_call (W1.out _)
        repeat still_step
        still_call (within_any m 21 _ Hfit.out.2.1 (by omega) (by omega))
        repeat still_step
        refine wpStill_nil ?_
        change wpList _ _ _ _ _ (wr.drewN 1)
        go_wp2_with fail
        refine (Put_any p a (m % 21) v S t _ (HSt.out.drewN 1).arena Hfit.out.2.2).mono ?_
        rintro e w4 ⟨rfl, q1, q2⟩
        have HS4 := Lib.hid ((HSt.out.drewN 1).put q1 q2)
        clear q1 q2
        go_wp2
        go_roundw
        case rel => exact ⟨k + 1, S, _, by omega, by omega, by go_num, (addrs_put _ _ _ _).trans Hadr.out, HS4.out⟩
        case measure => simp [intOf]; omega
      · have Hfin := Lib.hid (show ∃ (S : Nat → Prop) (t : AS), addrs 0 t.used = addrs 0 s.used ∧ St w wr p S t [rowA (.slice al s.used.length cl) s] from ⟨S, t, Hadr.out, HSt.out⟩)
        by_cases g1 : k < len1
        · by_cases g2 : k < 60
          · have g3 : ¬ 0 < s.used.length := by omega
            clear hgo
            go_wp2_with fail
            go_meet
            exact Hfin.out
          · clear hgo
            go_wp2_with fail
            go_meet
            exact Hfin.out
        · clear hgo
          go_wp2_with fail
          go_meet
          exact Hfin.out
  case rest =>
    obtain ⟨S, t, hadr, hst⟩ := hcut
    have hL := length_of_addrs hadr
    have Hadr := Lib.hid hadr
    have HL := Lib.hid hL
    have HSt := Lib.hid hst
    obtain ⟨t1, t2⟩ := HSt.out.small
    clear hadr hL hst
    go_wp2_with fail
    refine (Bytes_any p S t _ HSt.out.arena).mono ?_
    rintro e w4 ⟨vb, rfl, q1, q2, q3⟩
    have HS4 := Lib.hid (HSt.out.row q1 q2 q3)
    obtain ⟨ab, cb, rfl⟩ := row_form q1
    rw [List.length_map, encs_length] at HS4 ⊢
    clear q1 q2 q3 HSt
    go_wp2_with fail
    refine (Used_any p S t _ HS4.out.arena).mono ?_
    rintro e w5 ⟨rfl, rfl⟩
    go_wp2_with fail
    go_loopw [9, 10] (fun u i wr => ∃ k n : Nat, k ≤ s.used.length ∧ i = .int .i64 k ∧ u = .int .i64 (tot (t.used.take k)) ∧ wr = w5.drewN n) (fun _ i _ => (s.used.length - intOf i).toNat)
    case atStart => exact ⟨0, 0, by omega, rfl, rfl, rfl⟩
    case round =>
      obtain ⟨k, n, hk, rfl, rfl, rfl⟩ := hrel
      by_cases hlt : k < s.used.length
      · have hltt : k < t.used.length := by have := HL.out; omega
        have HSn := Lib.hid (HS4.out.drewN n)
        have hrow := HSn.out.rowAt (t := s) (List.mem_cons_of_mem _ List.mem_cons_self)
        obtain ⟨gl, ql, _, el, _, _, _⟩ := row_addr hrow (by omega)
        simp only [Value.slice.injEq, true_and] at el
        obtain ⟨rfl, rfl⟩ := el
        have hcell := row_int hrow hlt
        rw [← Hadr.out, addrs_get t.used 0 k hltt] at hcell
        have hfind := find_get t.used k hltt
        obtain ⟨x1, x2, x3⟩ := words_get t.used k hltt
        have hok := HSn.out.okAt t.used[k] (List.getElem_mem hltt)
        have hts := tot_take_succ t.used k hltt
        have htl := tot_take_le t.used (k + 1)
        obtain ⟨x, hx⟩ : ∃ x, x = t.used[k] := ⟨_, rfl⟩
        obtain ⟨A, hA⟩ : ∃ A, A = tot (t.used.take k) := ⟨_, rfl⟩
        rw [← hx] at hfind hok hts
        rw [← hx] at x1 x2 x3
        rw [← hA] at hcell hfind x1 x2 x3 hts ⊢
        rw [show ((0 : Nat) : Int) + A + 8 = (A : Int) + 8 from by omega] at hcell
        have hbnd : A + 16 + 8 * x.vs.length ≤ tot t.used := by omega
        have Hts := Lib.hid hts
        have Hx := Lib.hid (And.intro x1 (And.intro x2 x3))
        have Hok := Lib.hid hok
        have Hfind := Lib.hid hfind
        have hk2 := hok.2.1
        clear hrow hts x1 x2 x3 hfind hok hx hA htl
        have hrb := HSn.out.rowBt (t := t) List.mem_cons_self
        have N1 := Lib.hid (lawNumber_any (A : Int) _ (encs t.used) x.kind _ (by rw [encs_length]; exact hrb) (by omega) Hok.out.1 (by rw [Int.toNat_natCast]; exact Hx.out.1))
        have N2 := Lib.hid (lawNumber_any ((A : Int) + 8) _ (encs t.used) x.vs.length _ (by rw [encs_length]; exact hrb) (by omega) ⟨by omega, by omega⟩ (by rw [show ((A : Int) + 8).toNat = A + 8 from by omega]; exact Hx.out.2.1))
        clear hrb
        go_wp2_with fail
        refine (Slots_any p ((A : Int) + 8) S t _ HSn.out.arena).mono ?_
        rw [Hfind.out, show slotsOf (some x) = (x.vs.length : Int) from rfl, show errI (some x) = 0 from rfl]
        rintro e w7 ⟨rfl, rfl⟩
        go_wp2_with fail
        refine (Kind_any p ((A : Int) + 8) S t _ HSn.out.arena).mono ?_
        rw [Hfind.out, show kindOf (some x) = x.kind from rfl, show errI (some x) = 0 from rfl]
        rintro e w7 ⟨rfl, rfl⟩
        go_wp2_with fail
        refine N1.out.mono ?_
        rintro e w7 ⟨rfl, rfl⟩
        go_wp2_with fail
        refine N2.out.mono ?_
        rintro e w7 ⟨rfl, rfl⟩
        go_wp2_with fail
        go_loopw [15] (fun j wr => ∃ m q : Nat, m ≤ x.vs.length ∧ j = .int .i64 m ∧ wr = w5.drewN q) (fun j _ => (x.vs.length - intOf j).toNat)
        case atStart => exact ⟨0, n, by omega, rfl, rfl⟩
        case round =>
          obtain ⟨m, q, hm, rfl, rfl⟩ := hrel
          by_cases hmlt : m < x.vs.length
          · have HSq := Lib.hid (HS4.out.drewN q)
            have hrow := HSq.out.rowAt (t := s) (List.mem_cons_of_mem _ List.mem_cons_self)
            have hcell2 := row_int hrow hlt
            rw [← Hadr.out, addrs_get t.used 0 k hltt] at hcell2
            have hcell3 : (w5.drewN q).cell? ⟨gl, k, none⟩ = some (.int .i64 ((A : Int) + 8)) := hcell
            clear hcell2 hrow
            have hvo : I64 (x.vs[m]?.getD 0) := by
              rw [List.getElem?_eq_getElem hmlt]
              exact Hok.out.2.2 _ (List.getElem_mem hmlt)
            have Hg := Lib.hid (show getV (some x) m = x.vs[m]?.getD 0 ∧ slotE (some x) m = 0 from by
              have hn : ¬ ((m : Int) < 0 ∨ (m : Int) ≥ x.vs.length) := by omega
              exact ⟨(if_neg hn).trans (by rw [Int.toNat_natCast, List.getD_eq_getElem?_getD]), if_neg hn⟩)
            have N3 := Lib.hid (fun q2 => lawNumber_any ((A : Int) + 16 + 8 * m) _ (encs t.used) (x.vs[m]?.getD 0) (w5.drewN q2) (by rw [encs_length]; exact (HS4.out.drewN q2).rowBt (t := t) List.mem_cons_self) (by omega) hvo (by rw [show ((A : Int) + 16 + 8 * m).toNat = A + 16 + 8 * m from by omega]; exact Hx.out.2.2 m hmlt))
            generalize x.vs[m]?.getD 0 = val at *
            clear hvo
            go_wp2_with fail
            refine (Get_any p ((A : Int) + 8) m S t _ HSq.out.arena).mono ?_
            rw [Hfind.out, Hg.out.1, Hg.out.2]
            rintro e w8 ⟨rfl, q2, rfl⟩
            go_wp2_with fail
            refine (N3.out _).mono ?_
            rintro e w9 ⟨rfl, rfl⟩
            go_wp2
            go_roundw
            case rel => exact ⟨m + 1, _, by omega, by go_num, by first | rfl | exact World.drewN_drewN _ _ _⟩
            case measure => simp [intOf]; omega
          · obtain rfl : m = x.vs.length := by omega
            go_wp2
            go_roundw
            case rel => exact ⟨k + 1, q, by omega, by go_num, by rw [Hts.out]; go_num, by first | rfl | trivial⟩
            case measure => simp [intOf]; omega
      · obtain rfl : k = s.used.length := by omega
        have Hall := Lib.hid (show tot (t.used.take s.used.length) = tot t.used from by rw [← HL.out, List.take_length])
        rw [Hall.out]
        have Hf := Lib.hid (HS4.out.drewN n).fr
        go_wp2
        go_ret
        exact ⟨rfl, Hf.out⟩
end Go.Proofs.Ytniifefmjdjebaa
