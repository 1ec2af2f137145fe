/- Walk: ArenaFresh. -/
import Derived.Test.YtniifefmjdjebaaD6
namespace Go.Proofs.Ytniifefmjdjebaa
open Go.RowKit
set_option linter.unusedVariables false
set_option linter.unusedSimpArgs false

/-- All slots hold 0. -/
def Zeros (l : List Ob) : Prop := ∀ x ∈ l, ∀ v ∈ x.vs, v = 0
theorem Zeros.make {s : AS} (h : Zeros s.used) (kind n : Int) : Zeros (s.make kind n).used := by
  unfold AS.make; split
  · intro x hx v hv
    rcases List.mem_append.1 hx with hx | hx
    · exact h x hx v hv
    · simp at hx; subst hx; exact List.eq_of_mem_replicate hv
  · exact h
theorem Zeros.made (s : AS) (h : Zeros s.used) (c : Nat → CallD) : ∀ k, Zeros (madeK s c k).used
  | 0 => h
  | k + 1 => (Zeros.made s h c k).make _ _
/-- From object i on, slot j on, all slots hold 0. -/
structure ZFrom (l : List Ob) (i j : Nat) : Prop where
  later : ∀ i', i < i' → ∀ x, l[i']? = some x → ∀ v ∈ x.vs, v = 0
  here : ∀ x, l[i]? = some x → ∀ j', j ≤ j' → ∀ v, x.vs[j']? = some v → v = 0
theorem ZFrom.of_zeros {l : List Ob} (h : Zeros l) : ZFrom l 0 0 :=
  ⟨fun i' _ x hx v hv => h x (List.mem_of_getElem? hx) v hv, fun x hx j' _ v hv => h x (List.mem_of_getElem? hx) v (List.mem_of_getElem? hv)⟩
theorem ZFrom.next {l : List Ob} {i j : Nat} (h : ZFrom l i j) : ZFrom l (i + 1) 0 :=
  ⟨fun i' hi x hx v hv => h.later i' (by omega) x hx v hv, fun x hx j' _ v hv => h.later (i + 1) (by omega) x hx v (List.mem_of_getElem? hv)⟩
theorem setOb_get : ∀ (l : List Ob) (off i n : Nat) (v : Int), i < l.length → setOb off l ((off : Int) + tot (l.take i) + 8) n v = l.set i ⟨(l[i]?.getD ⟨0, []⟩).kind, (l[i]?.getD ⟨0, []⟩).vs.set n v⟩
  | [], _, _, _, _, h => by simp at h
  | x :: l, off, 0, n, v, _ => by
    unfold setOb
    rw [if_pos (by simp [tot_nil])]
    simp
  | x :: l, off, i + 1, n, v, h => by
    have hz := size_pos x
    unfold setOb
    rw [if_neg (by rw [List.take_succ_cons, tot_cons]; omega)]
    have := setOb_get l (off + x.size) i n v (by simpa using h)
    rw [List.take_succ_cons, tot_cons, show (off : Int) + ((x.size + tot (l.take i) : Nat) : Int) + 8 = ((off + x.size : Nat) : Int) + tot (l.take i) + 8 from by omega, this]
    simp
theorem ZFrom.put {l : List Ob} {i j : Nat} (h : ZFrom l i j) (hi : i < l.length) (v : Int) : ZFrom (setOb 0 l ((tot (l.take i) : Int) + 8) j v) i (j + 1) := by
  have e := setOb_get l 0 i j v hi
  rw [show ((0 : Nat) : Int) + tot (l.take i) + 8 = (tot (l.take i) : Int) + 8 from by omega] at e
  rw [e]
  refine ⟨fun i' h1 x hx u hu => ?_, fun x hx j' h1 u hu => ?_⟩
  · rw [List.getElem?_set_ne (by omega)] at hx
    exact h.later i' h1 x hx u hu
  · rw [List.getElem?_set_self hi] at hx
    simp only [Option.some.injEq] at hx
    subst hx
    simp only at hu
    rw [List.getElem?_set_ne (by omega)] at hu
    exact h.here _ (by rw [List.getElem?_eq_getElem hi]; rfl) j' (by omega) u hu
theorem St.drop {w0 w : World} {p : Nat} {S : Nat → Prop} {s : AS} {R : List KRow} (h : St w0 w p S s R) : St w0 w p S s [] := ⟨h.arena, h.fr, h.new, fun _ h => by cases h⟩
theorem put_len {l : List Ob} {i n : Nat} (hi : i < l.length) (j : Nat) (v : Int) (hn : l[i]?.map (·.vs.length) = some n) : (setOb 0 l ((tot (l.take i) : Int) + 8) j v)[i]?.map (·.vs.length) = some n := by
  have e := setOb_get l 0 i j v hi
  rw [show ((0 : Nat) : Int) + tot (l.take i) + 8 = (tot (l.take i) : Int) + 8 from by omega] at e
  rw [e, List.getElem?_set_self hi]
  rw [List.getElem?_eq_getElem hi] at hn ⊢
  simpa using hn
theorem tot_of_addrs {l r : List Ob} (h : addrs 0 l = addrs 0 r) (i : Nat) (hi : i < l.length) : tot (l.take i) = tot (r.take i) := by
  have h1 := addrs_get l 0 i hi
  have h2 := addrs_get r 0 i (by rw [← length_of_addrs h]; exact hi)
  rw [h, h2] at h1
  omega
set_option maxRecDepth 100000 in
set_option maxHeartbeats 2000000 in
theorem ArenaFresh_any (semi : Int) (a1 : Option Addr) (len1 cap1 : Nat) (c : Nat → CallD) (kind : Int) (w : World) (hs : I64 semi) (h1 : CallsIn w a1 len1 c) (hkind : I64 kind) :
    Calls Try.prog 6 #[.int .i64 semi, .slice a1 len1 cap1, .int .i64 kind] w fun e w' => e = .returned (.bool true) ∧ Fr (fun _ => False) w w' := by
  have hsm := h1.small
  have HI := Lib.hid h1; clear h1
  have HK := Lib.hid hkind; clear hkind
  go_enter Try.func6, Try.ntmps6
  go_wp2_with fail
  refine (known_any _).mono ?_
  rintro e w1 ⟨rfl, hf1⟩
  have HF1 := Lib.hid hf1; clear hf1
  go_wp2_with fail
  refine (made_any semi a1 len1 cap1 c _ hs (HI.out.keep HF1.out)).mono ?_
  intro e w2 hm
  obtain ⟨p, S, rfl, hst⟩ := hm.st HF1.out
  have hz0 : Zeros (madeS semi c len1).used := Zeros.made _ (by simp [AS.new, Zeros]) c _
  obtain ⟨s, hsd⟩ : ∃ s, s = madeS semi c len1 := ⟨_, rfl⟩
  rw [← hsd] at hst hz0
  clear hsd hm
  have HS := Lib.hid (And.intro hst hz0); clear hst hz0
  go_wp2_with fail
  go_loopw [8] (fun i wr => ∃ (k : Nat) (S : Nat → Prop) (s : AS), k ≤ 3 ∧ i = .int .i64 k ∧ Zeros s.used ∧ St w wr p S s []) (fun i _ => (3 - intOf i).toNat)
  case atStart => exact ⟨0, S, s, by omega, rfl, HS.out.2, HS.out.1⟩
  case round =>
    obtain ⟨k, S, s, hk, rfl, hz, hst⟩ := hrel
    have HS := Lib.hid (And.intro hst hz); clear hst hz
    obtain ⟨wo, rfl⟩ : ∃ wo, wo = wr := ⟨_, rfl⟩
    by_cases hlt : k < 3
    · go_wp2_with fail
      refine (All_any p S s _ HS.out.1.arena).mono ?_
      rintro e w3 ⟨vl, rfl, q1, q2, q3⟩
      have HS3 := Lib.hid (HS.out.1.row q1 q2 q3)
      clear q1 q2 q3
      obtain ⟨s1, s2⟩ := HS3.out.small
      obtain ⟨al, cl, rfl⟩ := row_form (HS3.out.rowAt (t := s) List.mem_cons_self)
      go_wp2_with fail
      go_loopw [10] (fun i wr => ∃ (k : Nat) (S : Nat → Prop) (t : AS), k ≤ s.used.length ∧ i = .int .i64 k ∧ addrs 0 t.used = addrs 0 s.used ∧ ZFrom t.used k 0 ∧ St w wr p S t [rowA (.slice al s.used.length cl) s]) (fun i _ => (s.used.length - intOf i).toNat)
      case atStart => exact ⟨0, S, s, by omega, rfl, rfl, ZFrom.of_zeros HS.out.2, HS3.out⟩
      case round =>
        obtain ⟨i, S, t, hi, rfl, hadr, hzf, hst⟩ := hrel
        have HT := Lib.hid (And.intro hadr (And.intro hzf hst)); clear hadr hzf hst
        obtain ⟨wo2, rfl⟩ : ∃ wo, wo = wr := ⟨_, rfl⟩
        by_cases hilt : i < s.used.length
        · have hilt2 : i < t.used.length := by rw [length_of_addrs HT.out.1]; exact hilt
          have hrow := HT.out.2.2.rowAt (t := s) List.mem_cons_self
          obtain ⟨gl, ql, _, el, _, _, _⟩ := row_addr hrow (by omega)
          simp only [Value.slice.injEq, true_and] at el
          obtain ⟨rfl, rfl⟩ := el
          have hcell := row_int hrow hilt
          rw [← HT.out.1, addrs_get t.used 0 i hilt2] at hcell
          obtain ⟨A, hA⟩ : ∃ A, A = tot (t.used.take i) := ⟨_, rfl⟩
          have Hfind := Lib.hid (find_get t.used i hilt2)
          obtain ⟨n, hn⟩ : ∃ n, n = t.used[i].vs.length := ⟨_, rfl⟩
          have hn2 : n ≤ 65536 := by rw [hn]; exact (HT.out.2.2.okAt _ (List.getElem_mem hilt2)).2.1
          have Hlen := Lib.hid (show t.used[i]?.map (·.vs.length) = some n from by rw [List.getElem?_eq_getElem hilt2, hn]; rfl)
          have Hsl := Lib.hid (show slotsOf (some t.used[i]) = (n : Int) from by rw [hn]; rfl)
          rw [← hA, show ((0 : Nat) : Int) + A + 8 = (A : Int) + 8 from by omega] at hcell
          rw [← hA] at Hfind
          have HA := Lib.hid hA
          clear hA hn hrow
          go_wp2_with fail
          refine (Slots_any p ((A : Int) + 8) S t _ HT.out.2.2.arena).mono ?_
          rw [Hfind.out, Hsl.out]
          rintro e w4 ⟨rfl, rfl⟩
          clear hcell
          go_wp2_with fail
          go_loopw [13] (fun j wr => ∃ (j' : Nat) (S : Nat → Prop) (u : AS), j' ≤ n ∧ j = .int .i64 j' ∧ addrs 0 u.used = addrs 0 s.used ∧ ZFrom u.used i j' ∧ u.used[i]?.map (·.vs.length) = some n ∧ St w wr p S u [rowA (.slice (some ⟨gl, 0, none⟩) s.used.length cl) s]) (fun j _ => (n - intOf j).toNat)
          case atStart => exact ⟨0, S, t, by omega, rfl, HT.out.1, HT.out.2.1, Hlen.out, HT.out.2.2⟩
          case round =>
            obtain ⟨j, S, u, hj, rfl, hadr, hzf, hlen, hst⟩ := hrel
            have HU := Lib.hid (And.intro hadr (And.intro hzf (And.intro hlen hst))); clear hadr hzf hlen hst
            by_cases hjlt : j < n
            · have hiu : i < u.used.length := by rw [length_of_addrs HU.out.1]; exact hilt
              have hrow := HU.out.2.2.2.rowAt (t := s) List.mem_cons_self
              have hcell := row_int hrow hilt
              have htA : tot (u.used.take i) = A := by
                rw [HA.out]; exact tot_of_addrs (HU.out.1.trans HT.out.1.symm) i hiu
              rw [← HU.out.1, addrs_get u.used 0 i hiu, htA, show ((0 : Nat) : Int) + A + 8 = (A : Int) + 8 from by omega] at hcell
              have hfind := find_get u.used i hiu
              rw [htA] at hfind
              have hxl : u.used[i].vs.length = n := by
                have := HU.out.2.2.1
                rw [List.getElem?_eq_getElem hiu] at this
                simpa using this
              have hv0 : u.used[i].vs.getD j 0 = 0 := by
                have h0 := HU.out.2.1.here u.used[i] (List.getElem?_eq_getElem hiu) j (Nat.le_refl _) (u.used[i].vs[j]'(by omega)) (List.getElem?_eq_getElem (by omega))
                rw [List.getD_eq_getElem?_getD, List.getElem?_eq_getElem (by omega)]
                exact h0
              have hnb : ¬ ((j : Int) < 0 ∨ (j : Int) ≥ u.used[i].vs.length) := by rw [hxl]; omega
              have Hg := Lib.hid (show getV (findOb 0 u.used ((A : Int) + 8)) j = 0 ∧ slotE (findOb 0 u.used ((A : Int) + 8)) j = 0 from by
                rw [hfind]
                exact ⟨(if_neg hnb).trans (by rw [Int.toNat_natCast]; exact hv0), if_neg hnb⟩)
              have Hput := Lib.hid (show u.put ((A : Int) + 8) j (-1) = { u with used := setOb 0 u.used ((tot (u.used.take i) : Int) + 8) j (-1) } from by
                unfold AS.put; rw [Hg.out.2, if_pos rfl, htA, Int.toNat_natCast])
              clear hrow hfind hxl hv0 hnb htA
              go_wp2_with fail
              refine (Get_any p ((A : Int) + 8) j S u _ HU.out.2.2.2.arena).mono ?_
              rw [Hg.out.1, Hg.out.2]
              rintro e w5 ⟨rfl, q, rfl⟩
              go_wp2_with fail
              refine (Put_any p ((A : Int) + 8) j (-1) S u _ (HU.out.2.2.2.drewN q).arena ⟨by omega, by omega⟩).mono ?_
              rintro e w6 ⟨rfl, q1, q2⟩
              have HS6 := Lib.hid ((HU.out.2.2.2.drewN q).put q1 q2)
              clear q1 q2 hcell
              go_wp2
              go_roundw
              case rel =>
                have h6 := HS6.out
                rw [Hput.out] at h6
                exact ⟨j + 1, S, _, by omega, by go_num, (addrs_setOb _ _ _ _ _).trans HU.out.1, HU.out.2.1.put hiu (-1), put_len hiu j (-1) HU.out.2.2.1, h6⟩
              case measure => simp [intOf]; omega
            · obtain rfl : j = n := by omega
              go_wp2
              go_roundw
              case rel => exact ⟨i + 1, S, u, by omega, by go_num, HU.out.1, HU.out.2.1.next, HU.out.2.2.2⟩
              case measure => simp [intOf]; omega
        · go_wp2_with fail
          refine (Flip_any p S t _ HT.out.2.2.arena).mono ?_
          rintro e w7 ⟨rfl, q1⟩
          obtain ⟨S7, hq⟩ := HT.out.2.2.turned q1
          have HS7 := Lib.hid hq.drop
          clear q1 hq
          go_wp2_with fail
          go_loopw [16] (fun i wr => ∃ (m : Nat) (S : Nat → Prop) (u : AS), m ≤ 60 ∧ m ≤ len1 ∧ i = .int .i64 m ∧ Zeros u.used ∧ St w wr p S u []) (fun i _ => (60 - intOf i).toNat)
          case atStart => exact ⟨0, S7, _, by omega, by omega, rfl, by simp [Zeros], HS7.out⟩
          case round =>
            obtain ⟨m, S, u, hm, hm2, rfl, hz, hst⟩ := hrel
            have HU := Lib.hid (And.intro hz hst); clear hz hst
            by_cases g1 : m < len1
            · by_cases g2 : m < 60
              · obtain ⟨b, off, rfl, hc⟩ := (HI.out.keep HU.out.2.fr).cells (by omega)
                obtain ⟨e1, e2, e3, e4, e5⟩ := hc m g1
                obtain ⟨f1, f2, f3, f4, f5⟩ := HI.out.fit m g1
                have Hf := Lib.hid f3
                clear hc e1 e2 e4 e5 f1 f2 f3 f4 f5
                go_wp2_with fail
                refine (within_any (c m).m 20 _ Hf.out (by omega) (by omega)).mono ?_
                rintro e w8 ⟨rfl, rfl⟩
                clear e3
                go_wp2_with fail
                refine (Make_any p kind ((c m).m % 20) S u _ HU.out.2.arena HK.out).mono ?_
                rintro e w9 ⟨rfl, q1⟩
                obtain ⟨S9, hq⟩ := HU.out.2.turned q1
                have HS9 := Lib.hid hq
                clear q1 hq
                go_wp2
                go_roundw
                case rel => exact ⟨m + 1, S9, _, by omega, by omega, by go_num, HU.out.1.make _ _, HS9.out⟩
                case measure => simp [intOf]; omega
              · go_wp2
                go_roundw
                case rel => exact ⟨k + 1, S, u, by omega, by go_num, HU.out.1, HU.out.2⟩
                case measure => simp [intOf]; omega
            · go_wp2
              go_roundw
              case rel => exact ⟨k + 1, S, u, by omega, by go_num, HU.out.1, HU.out.2⟩
              case measure => simp [intOf]; omega
    · go_wp2
      go_ret
      exact ⟨rfl, HS.out.1.fr⟩
end Go.Proofs.Ytniifefmjdjebaa
