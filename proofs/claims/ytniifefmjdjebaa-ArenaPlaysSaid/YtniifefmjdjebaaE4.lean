/- Walk: ArenaCopies. -/
import Derived.Test.YtniifefmjdjebaaD4
namespace Go.Proofs.Ytniifefmjdjebaa
open Go.RowKit
set_option linter.unusedVariables false
set_option linter.unusedSimpArgs false

theorem addrs_adr (L : List Ob) (j : Nat) (h : j < L.length) : (addrs 0 L)[j]?.getD 0 = adr L j := by
  rw [addrs_get L 0 j h]; unfold adr; omega
theorem Sx.rowI {w0 w : World} {p : Nat} {S : Nat → Prop} {s : AS} {R : List KRow} {v : Value} {e : TypeId} {k : IntKind} {xs : List Int} (h : Sx w0 w p S s R) (hr : (v, e, xs.map (Value.int k)) ∈ R) : w.ownsRow 0 e 1 v xs.length (xs.map (Value.int k)) := by
  have := (h.st.rows _ hr).1
  simpa using this
theorem IsArena.fits {w : World} {p : Nat} {S : Nat → Prop} {s : AS} (h : IsArena w p S s) : tot s.used ≤ s.semi := by
  obtain ⟨vb, vl, m, vb', vl', mo', mv, hp, h1, h2, h3, h4, h5, h6, h7, h8, h9, h10, h11, hS⟩ := h
  exact h9
/-- The kinds and the sizes of the first objects, as cells. -/
def kindsOf (L : List Ob) (m : Nat) : List Value := (L.take m).map fun x => .int .i64 x.kind
def sizesOf (L : List Ob) (m : Nat) : List Value := (L.take m).map fun x => .int .i64 x.vs.length
theorem kindsOf_length (L : List Ob) (m : Nat) (h : m ≤ L.length) : (kindsOf L m).length = m := by simp [kindsOf]; omega
theorem sizesOf_length (L : List Ob) (m : Nat) (h : m ≤ L.length) : (sizesOf L m).length = m := by simp [sizesOf]; omega
theorem kindsOf_succ (L : List Ob) (m : Nat) (h : m < L.length) : kindsOf L m ++ [.int .i64 L[m].kind] = kindsOf L (m + 1) := by
  unfold kindsOf; rw [List.take_succ_eq_append_getElem h, List.map_append]; rfl
theorem sizesOf_succ (L : List Ob) (m : Nat) (h : m < L.length) : sizesOf L m ++ [.int .i64 L[m].vs.length] = sizesOf L (m + 1) := by
  unfold sizesOf; rw [List.take_succ_eq_append_getElem h, List.map_append]; rfl
theorem kindsOf_get (L : List Ob) (m j : Nat) (h : m ≤ L.length) (hj : j < m) (x : Ob) (hx : L[j]? = some x) : (kindsOf L m)[j]? = some (.int .i64 x.kind) := by
  unfold kindsOf; rw [List.getElem?_map, List.getElem?_take_of_lt hj, hx]; rfl
theorem sizesOf_get (L : List Ob) (m j : Nat) (h : m ≤ L.length) (hj : j < m) (x : Ob) (hx : L[j]? = some x) : (sizesOf L m)[j]? = some (.int .i64 x.vs.length) := by
  unfold sizesOf; rw [List.getElem?_map, List.getElem?_take_of_lt hj, hx]; rfl
set_option maxRecDepth 100000 in
set_option maxHeartbeats 4000000 in
theorem ArenaCopies_any (semi : Int) (a1 : Option Addr) (len1 cap1 : Nat) (c : Nat → CallD) (by_ : Int) (w : World) (hs : I64 semi) (h1 : CallsIn w a1 len1 c) (hby : I64 by_) :
    Calls Try.prog 7 #[.int .i64 semi, .slice a1 len1 cap1, .int .i64 by_] w fun e w' => e = .returned (.bool true) ∧ Fr (fun _ => False) w w' := by
  have HI := Lib.hid h1; clear h1
  have HBy := Lib.hid hby; clear hby
  obtain ⟨i3, hi3, hz3, hs3, hb3⟩ := info_parts info3
  go_enter Try.func7, Try.ntmps7
  go_wp2_with fail
  refine (known_any _).mono ?_
  rintro e w1 ⟨rfl, hf1⟩
  have HF1 := Lib.hid hf1; clear hf1
  go_wp2_with fail
  refine (made_any semi a1 len1 cap1 c _ hs (HI.out.keep HF1.out)).mono ?_
  intro e w2 hm
  obtain ⟨p, S, rfl, hst⟩ := hm.st HF1.out
  have hah := madeS_ahead semi c len1
  obtain ⟨s, hsd⟩ : ∃ s, s = madeS semi c len1 := ⟨_, rfl⟩
  rw [← hsd] at hst hah
  clear hsd hm
  have HS := Lib.hid hst.sx; clear hst hah
  go_wp2_with fail
  refine (All_any p S s _ HS.out.st.arena).mono ?_
  rintro e w3 ⟨vl, rfl, q1, q2, q3⟩
  have HS3 := Lib.hid (HS.out.row q1 q2 q3)
  clear q1 q2 q3
  obtain ⟨s1, s2⟩ := HS3.out.st.small
  obtain ⟨al, cl, rfl⟩ := row_form (HS3.out.st.rowAt (t := s) List.mem_cons_self)
  obtain ⟨rA, hrA⟩ : ∃ r, r = rowA (.slice al s.used.length cl) s := ⟨_, rfl⟩
  rw [show ((Value.slice al s.used.length cl, 2, (addrs 0 s.used).map (Value.int .i64)) : KRow) = rA from hrA.symm] at HS3
  have HrA := Lib.hid hrA; clear hrA
  obtain ⟨n, hn⟩ : ∃ n, n = s.used.length := ⟨_, rfl⟩
  rw [← hn] at HrA s2 ⊢
  have Hn := Lib.hid hn; clear hn
  go_wp2_with fail
  go_loopw [9] (fun i wr => ∃ (k : Nat) (S : Nat → Prop) (t : AS), k ≤ n ∧ i = .int .i64 k ∧ addrs 0 t.used = addrs 0 s.used ∧ Sevens t.used k ∧ Sx w wr p S t [rA]) (fun i _ => (n - intOf i).toNat)
  case atStart => exact ⟨0, S, s, by omega, rfl, rfl, fun i hi => by omega, HS3.out⟩
  case round =>
    obtain ⟨k, S, t, hk, rfl, hadr, hsev, hsx⟩ := hrel
    have HT := Lib.hid (And.intro hadr (And.intro hsev hsx)); clear hadr hsev hsx
    have hnt : n = t.used.length := by rw [Hn.out]; exact (length_of_addrs HT.out.1).symm
    by_cases hlt : k < n
    · have hrow := HT.out.2.2.st.rowAt (t := s) (v := .slice al n cl) (by rw [← HrA.out]; exact List.mem_cons_self)
      rw [← Hn.out] at hrow
      obtain ⟨gl, ql, _, el, _, _, _⟩ := row_addr hrow (by omega)
      simp only [Value.slice.injEq, true_and] at el
      obtain ⟨rfl, rfl⟩ := el
      have hcell := row_int hrow hlt
      rw [← HT.out.1, addrs_adr t.used k (by omega)] at hcell
      have Hnt := Lib.hid hnt
      obtain ⟨a, ha⟩ : ∃ a, a = adr t.used k := ⟨_, rfl⟩
      rw [← ha] at hcell
      have Ha := Lib.hid ha
      clear hrow hnt ha
      go_wp2_with fail
      refine (Put_any p a 0 ((k : Int) * 7) S t _ HT.out.2.2.st.arena ⟨by omega, by omega⟩).mono ?_
      rintro e w4 ⟨rfl, q1, q2⟩
      have HS4 := Lib.hid (HT.out.2.2.put q1 q2)
      clear q1 q2 hcell
      go_wp2
      go_roundw
      case rel =>
        refine ⟨k + 1, S, _, by omega, by go_num, (addrs_put _ _ _ _).trans HT.out.1, ?_, HS4.out⟩
        rw [Ha.out, Int.mul_comm]
        exact HT.out.2.1.put (by have := Hnt.out; omega)
      case measure => simp [intOf]; omega
    · obtain rfl : k = n := by omega
      obtain ⟨L, hL⟩ : ∃ L, L = t.used := ⟨_, rfl⟩
      have HL := Lib.hid hL
      have Hnt := Lib.hid (show k = L.length from by rw [hL]; exact hnt)
      have hX := Lib.hid (show True ∧ tot t.used ≤ t.semi ∧ ∀ x ∈ t.used, x.vs.length ≤ 65536 from ⟨trivial, HT.out.2.2.st.arena.fits, fun x hx => (HT.out.2.2.st.okAt x hx).2.1⟩)
      clear hL hnt
      have HS2 := Lib.hid ((HT.out.2.2.nil 3).nil 3)
      go_wp2_with fail
      go_loopw [10, 11, 12] (fun vk vs i wr => ∃ m : Nat, m ≤ k ∧ i = .int .i64 m ∧ Sx w wr p S t ((vk, 3, kindsOf L m) :: (vs, 3, sizesOf L m) :: [rA])) (fun _ _ i _ => (k - intOf i).toNat)
      case atStart => exact ⟨0, by omega, rfl, HS2.out⟩
      case round =>
        obtain ⟨m, hm, rfl, hsx⟩ := hrel
        have HX := Lib.hid hsx; clear hsx
        by_cases hmlt : m < k
        · have hrow := HX.out.st.rowAt (t := s) (v := .slice al k cl) (by rw [← HrA.out]; exact List.mem_cons_of_mem _ (List.mem_cons_of_mem _ List.mem_cons_self))
          rw [← Hn.out] at hrow
          obtain ⟨gl, ql, _, el, _, _, _⟩ := row_addr hrow (by omega)
          simp only [Value.slice.injEq, true_and] at el
          obtain ⟨rfl, rfl⟩ := el
          have hcell := row_int hrow hmlt
          have hmL : m < L.length := by have := Hnt.out; omega
          rw [← HT.out.1, ← HL.out, addrs_adr L m hmL] at hcell
          have Hfind := Lib.hid (show findOb 0 t.used (adr L m) = some L[m] from by rw [← HL.out]; exact find_adr L m hmL)
          have hok := HX.out.st.okAt L[m] (by rw [← HL.out]; exact List.getElem_mem hmL)
          have hv2 := hok.2.1
          obtain ⟨a, ha⟩ : ∃ a, a = adr L m := ⟨_, rfl⟩
          rw [← ha] at hcell Hfind
          obtain ⟨x, hx⟩ : ∃ x, x = L[m] := ⟨_, rfl⟩
          rw [← hx] at Hfind hv2
          have Hk1 := Lib.hid (show kindsOf L m ++ [.int .i64 x.kind] = kindsOf L (m + 1) from by rw [hx]; exact kindsOf_succ L m hmL)
          have Hk2 := Lib.hid (show sizesOf L m ++ [.int .i64 x.vs.length] = sizesOf L (m + 1) from by rw [hx]; exact sizesOf_succ L m hmL)
          have hl1 := kindsOf_length L m (by omega)
          have hl2 := sizesOf_length L m (by omega)
          have Hl := Lib.hid (And.intro hl1 hl2)
          have hr1 := HX.out.head
          rw [hl1] at hr1
          have Hr1 := Lib.hid hr1
          clear hrow hok ha hx hl1 hl2 hr1
          go_wp2_with fail
          refine (Kind_any p a S t _ HX.out.st.arena).mono ?_
          rw [Hfind.out, show kindOf (some x) = x.kind from rfl]
          rintro e w5 ⟨rfl, rfl⟩
          go_wp2_with fail
          refine (Slots_any p a S t _ HX.out.st.arena).mono ?_
          rw [Hfind.out, show slotsOf (some x) = (x.vs.length : Int) from rfl]
          rintro e w6 ⟨rfl, rfl⟩
          clear hcell
          go_wp2_with (first | (at_builtin; refine wpList_append_own_at _ rfl _ _ 22 rfl 0 3 i3 (.int .i64 0) 1 8 und22 hi3 hz3 hs3 hb3 rfl (by decide) _ _ _ rfl (Hr1.out.alloc _) ⟨w6.heap.size, 0, none⟩ 1 1 [.int .i64 x.kind] rfl rfl ?c1 ?c2 ?c3 ?c4 ?c5 ?_))
          case c1 => exact cell_one_new _ _ _
          case c2 => intro u hu; simp at hu; subst hu; rfl
          case c3 => unfold maxLen; omega
          case c4 => omega
          case c5 => exact Nat.zero_le _
          intro v7 w7 hown7 hgr7 _ hloc7
          have hx7 := HX.out.appended (x := .int .i64 x.kind) (v' := v7) (by rw [Hl.out.1]; exact hown7) hgr7 (by simpa using hloc7)
          have HX7 := Lib.hid hx7.swap
          clear hown7 hgr7 hloc7 hx7
          have hr2 := HX7.out.head
          rw [Hl.out.2] at hr2
          have Hr2 := Lib.hid hr2
          clear hr2
          go_wp2_with (first | (at_builtin; refine wpList_append_own_at _ rfl _ _ 22 rfl 0 3 i3 (.int .i64 0) 1 8 und22 hi3 hz3 hs3 hb3 rfl (by decide) _ _ _ rfl (Hr2.out.alloc _) ⟨w7.heap.size, 0, none⟩ 1 1 [.int .i64 x.vs.length] rfl rfl ?d1 ?d2 ?d3 ?d4 ?d5 ?_))
          case d1 => exact cell_one_new _ _ _
          case d2 => intro u hu; simp at hu; subst hu; rfl
          case d3 => unfold maxLen; omega
          case d4 => omega
          case d5 => exact Nat.zero_le _
          intro v8 w8 hown8 hgr8 _ hloc8
          have hx8 := HX7.out.appended (x := .int .i64 x.vs.length) (v' := v8) (by rw [Hl.out.2]; exact hown8) hgr8 (by simpa using hloc8)
          have HX8 := Lib.hid hx8.swap
          clear hown8 hgr8 hloc8 hx8
          go_wp2
          go_roundw
          case rel =>
            refine ⟨m + 1, by omega, by go_num, ?_⟩
            have h8 := HX8.out
            rw [Hk1.out, Hk2.out] at h8
            exact h8
          case measure => simp [intOf]; omega
        · obtain rfl : m = k := by omega
          have HL2 := Lib.hid (show t.ahead = t.ahead from rfl)
          go_wp2_with fail
          refine (Used_any p S t _ HX.out.st.arena).mono ?_
          rintro e w5 ⟨rfl, rfl⟩
          go_wp2_with fail
          refine (Flip_any p S t _ HX.out.st.arena).mono ?_
          rintro e w6 ⟨rfl, q1⟩
          obtain ⟨S6, hx6⟩ := HX.out.turned q1
          have HX6 := Lib.hid hx6
          obtain ⟨t1, t2⟩ := HX.out.st.small
          clear q1 hx6
          go_wp2_with fail
          refine (Used_any p S6 _ _ HX6.out.st.arena).mono ?_
          rintro e w7 ⟨rfl, rfl⟩
          rw [show ((tot ([] : List Ob) : Nat) : Int) = 0 from rfl]
          go_wp2_with fail
          refine (All_any p S6 _ _ HX6.out.st.arena).mono ?_
          rintro e w8 ⟨v8, rfl, q1, q2, q3⟩
          have HX8 := Lib.hid (HX6.out.kept q2)
          obtain ⟨a8, c8, rfl⟩ := row_form q1
          rw [show ((addrs 0 ([] : List Ob)).map (Value.int .i64)).length = 0 from rfl]
          clear q1 q2 q3
          go_wp2_with fail
          obtain ⟨r0, hr0⟩ : ∃ r0, r0 = (by_ % (m : Int)).toNat := ⟨_, rfl⟩
          have HR0 := Lib.hid hr0
          clear hr0
          go_loopw [18] (fun i wr => ∃ (k : Nat) (S : Nat → Prop) (u : AS), k ≤ m ∧ i = .int .i64 k ∧ Cp L r0 t.semi k u ∧ Sx w wr p S u ((u10, 3, kindsOf L m) :: (u11, 3, sizesOf L m) :: [rA])) (fun i _ => (m - intOf i).toNat)
          case atStart => exact ⟨0, S6, ⟨[], t.used, fun _ => none, t.semi⟩, by omega, rfl, ⟨by simp, HL.out.symm, rfl, fun _ _ _ => rfl⟩, HX8.out⟩
          case round =>
            obtain ⟨k, Sk, u, hk, rfl, hcp, hsx⟩ := hrel
            have HC := Lib.hid (And.intro hcp hsx)
            clear hcp hsx
            by_cases hkm : k < m
            · have hm0 : 1 ≤ (m : Int) := by omega
              have hb : by_ % (m : Int) = (r0 : Int) := by rw [HR0.out]; exact (Int.toNat_of_nonneg (Int.emod_nonneg _ (by omega))).symm
              have hrm : r0 < m := by have := Int.emod_lt_of_pos by_ (show (0 : Int) < m by omega); omega
              have hmb : (m : Int) ≤ 1048576 := by omega
              have HB := Lib.hid hb
              clear hb
              go_wp2_with fail
              refine (within_any by_ m _ HBy.out hm0 hmb).mono ?_
              rw [HB.out]
              rintro e w9 ⟨rfl, rfl⟩
              obtain ⟨j, hj⟩ : ∃ j, j = (k + r0) % m := ⟨_, rfl⟩
              have hjm : j < m := by rw [hj]; exact Nat.mod_lt _ (by omega)
              have hjt : ((k : Int) + r0) % m = j := by rw [hj]; push_cast; rfl
              have hne : ((m : Int) == 0) = false := by rw [beq_eq_false_iff_ne]; omega
              have hmL : m = L.length := Hnt.out
              have hjL : j < L.length := by omega
              have hL1 : tot L ≤ t.semi := by rw [HL.out]; exact hX.out.2.1
              have hL2 : ∀ x ∈ L, x.vs.length ≤ 65536 := by rw [HL.out]; exact hX.out.2.2
              have hrowA := HC.out.2.st.rowAt (t := s) (v := .slice al m cl) (by rw [← HrA.out]; exact List.mem_cons_of_mem _ (List.mem_cons_of_mem _ List.mem_cons_self))
              rw [← Hn.out] at hrowA
              obtain ⟨gl, ql, _, el, _, _, _⟩ := row_addr hrowA (by omega)
              simp only [Value.slice.injEq, true_and] at el
              obtain ⟨rfl, rfl⟩ := el
              have hcell := row_int hrowA hjm
              rw [← HT.out.1, ← HL.out, addrs_adr L j hjL] at hcell
              obtain ⟨x, hx⟩ : ∃ x, x = L[j] := ⟨_, rfl⟩
              have hxj : L[j]? = some x := by rw [List.getElem?_eq_getElem hjL, hx]
              have Hx := Lib.hid hxj
              have Hj := Lib.hid (hmL ▸ hj)
              obtain ⟨g1, g2, u', g3, g4, g5, g6, g7, g8⟩ := HC.out.1.step (by omega) (by omega) hL1 hL2 j Hj.out x hxj
              have HG := Lib.hid (And.intro g1 (And.intro g2 (And.intro g3 (And.intro g4 (And.intro g5 (And.intro g6 (And.intro g7 g8)))))))
              have hu1 := HC.out.2.st.small.1
              have HjL := Lib.hid hjL
              obtain ⟨a, ha⟩ : ∃ a, a = adr L j := ⟨_, rfl⟩
              rw [← ha] at hcell HG
              have Ha := Lib.hid ha
              clear hmL hjL hrowA hx hxj hj g1 g2 g3 g4 g5 g6 g7 g8 hL1 hL2 ha
              go_wp2_with fail
              refine (Copy_any p a Sk u _ HC.out.2.st.arena).mono ?_
              rintro e w10 ⟨rfl, q1⟩
              rw [HG.out.1, HG.out.2.1]
              rw [HG.out.2.2.1] at q1
              obtain ⟨S10, hx10⟩ := HC.out.2.turned q1
              have HX10 := Lib.hid hx10
              have hrowB := hx10.st.rowAt (t := s) (v := .slice (some ⟨gl, 0, none⟩) m cl) (by rw [← HrA.out]; exact List.mem_cons_of_mem _ (List.mem_cons_of_mem _ List.mem_cons_self))
              rw [← Hn.out] at hrowB
              have hcell2 := row_int hrowB hjm
              rw [← HT.out.1, ← HL.out, addrs_adr L j HjL.out, ← Ha.out] at hcell2
              clear q1 hx10 hrowB
              obtain ⟨tu, htu⟩ : ∃ tu, tu = tot u.used := ⟨_, rfl⟩
              rw [← htu] at HG hu1 ⊢
              have HTu := Lib.hid htu
              clear htu
              go_wp2_with fail
              refine (Copy_any p a S10 u' _ HX10.out.st.arena).mono ?_
              rintro e w11 ⟨rfl, q1⟩
              rw [HG.out.2.2.2.2.1, HG.out.2.2.2.2.2.1]
              rw [HG.out.2.2.2.2.2.2.1] at q1
              obtain ⟨S11, hx11⟩ := HX10.out.turned q1
              have HX11 := Lib.hid hx11
              clear q1 hx11
              go_wp2_with fail
              refine (Kind_any p _ S11 u' _ HX11.out.st.arena).mono ?_
              rw [HG.out.2.2.2.2.2.2.2, show kindOf (some x) = x.kind from rfl]
              rintro e w12 ⟨rfl, rfl⟩
              go_wp2_with fail
              refine (Slots_any p _ S11 u' _ HX11.out.st.arena).mono ?_
              rw [HG.out.2.2.2.2.2.2.2, show slotsOf (some x) = (x.vs.length : Int) from rfl]
              rintro e w13 ⟨rfl, rfl⟩
              go_wp2_with fail
              refine (Get_any p _ 0 S11 u' _ HX11.out.st.arena).mono ?_
              rw [HG.out.2.2.2.2.2.2.2]
              rintro e w14 ⟨rfl, nd, rfl⟩
              have HX14 := Lib.hid (HX11.out.drewN nd)
              have hr1 := HX14.out.head
              have hr2 := HX14.out.swap.head
              have hmle : m ≤ L.length := by have := Hnt.out; omega
              rw [kindsOf_length L m hmle] at hr1
              rw [sizesOf_length L m hmle] at hr2
              obtain ⟨gk, qk, _, ek, _, _, _⟩ := row_addr hr1 (by omega)
              obtain ⟨gs, qs, _, es, _, _, _⟩ := row_addr hr2 (by omega)
              subst ek es
              have hk1 := row_cell hr1 (kindsOf_get L m j hmle hjm x Hx.out)
              have hk2 := row_cell hr2 (sizesOf_get L m j hmle hjm x Hx.out)
              have Hxv := Lib.hid (And.intro hk2 (HT.out.2.1 j hjm x (by rw [← HL.out]; exact Hx.out)))
              clear hr1 hr2 hk2
              by_cases hn0 : x.vs.length = 0
              · have hk2 := Hxv.out.1
                rw [hn0] at hk2 ⊢
                obtain ⟨gv, hgv⟩ : ∃ gv, gv = getV (some x) 0 := ⟨_, rfl⟩
                obtain ⟨ge, hge⟩ : ∃ ge, ge = slotE (some x) 0 := ⟨_, rfl⟩
                rw [← hgv, ← hge]
                clear hgv hge hn0
                go_wp2
                go_roundw
                case rel => exact ⟨k + 1, S11, u', by omega, by go_num, HG.out.2.2.2.1, HX14.out⟩
                case measure => simp [intOf]; omega
              · have hgv : getV (some x) 0 = (j : Int) * 7 := by
                  have h7 := Hxv.out.2 (by omega)
                  rw [List.getElem?_eq_getElem (by omega), Option.getD_some] at h7
                  unfold getV
                  simp only
                  rw [if_neg (by omega), Int.toNat_zero, List.getD_eq_getElem?_getD, List.getElem?_eq_getElem (by omega), Option.getD_some, h7, Int.mul_comm]
                have hge : slotE (some x) 0 = 0 := by
                  unfold slotE
                  simp only
                  rw [if_neg (by omega)]
                have hk2 := Hxv.out.1
                rw [hgv, hge]
                obtain ⟨xl, hxl⟩ : ∃ xl, xl = x.vs.length := ⟨_, rfl⟩
                rw [← hxl] at hk2 hn0 ⊢
                clear hxl hgv hge
                have hpos : (0 : Int) < xl := by omega
                go_wp2
                go_roundw
                case rel => exact ⟨k + 1, S11, u', by omega, by go_num, HG.out.2.2.2.1, HX14.out⟩
                case measure => simp [intOf]; omega
            · obtain rfl : k = m := by omega
              go_wp2_with fail
              refine (Copy_any p 3 Sk u _ HC.out.2.st.arena).mono ?_
              rintro e w9 ⟨rfl, q1⟩
              have hf3 := findOb_lt u.ahead 0 3 (by decide)
              rw [show u.copyA 3 = 0 from by unfold AS.copyA; rw [hf3], show u.copyE 3 = 57 from by unfold AS.copyE; rw [hf3]]
              rw [show u.copy 3 = u from by unfold AS.copy; rw [hf3]] at q1
              obtain ⟨S9, hx9⟩ := HC.out.2.turned q1
              have HX9 := Lib.hid hx9
              clear q1 hx9 hf3
              have Htot := Lib.hid (show tot u.used = tot t.used from by
                have h1 := HC.out.1.used
                have h2 := Hnt.out
                rw [h1, ← HL.out, h2, List.take_of_length_le (by simp [rot]; omega), rot_tot])
              go_wp2_with fail
              refine (Used_any p S9 u _ HX9.out.st.arena).mono ?_
              rintro e w10 ⟨rfl, rfl⟩
              rw [Htot.out]
              go_wp2_with fail
              refine (Flip_any p S9 u _ HX9.out.st.arena).mono ?_
              rintro e w11 ⟨rfl, q1⟩
              obtain ⟨S11, hx11⟩ := HX9.out.turned q1
              have HX11 := Lib.hid hx11
              clear q1 hx11
              go_wp2_with fail
              refine (Flip_any p S11 _ _ HX11.out.st.arena).mono ?_
              rintro e w12 ⟨rfl, q1⟩
              obtain ⟨S12, hx12⟩ := HX11.out.turned q1
              have HX12 := Lib.hid hx12
              clear q1 hx12
              go_wp2_with fail
              refine (Copy_any p 8 S12 _ _ HX12.out.st.arena).mono ?_
              rintro e w13 ⟨rfl, q1⟩
              obtain ⟨S13, hx13⟩ := HX12.out.turned q1
              rw [show AS.copyE _ 8 = 57 from rfl]
              have HX13 := Lib.hid hx13
              clear q1 hx13
              obtain ⟨va, hva⟩ : ∃ va, va = AS.copyA ⟨[], [], fun _ => none, u.semi⟩ 8 := ⟨_, rfl⟩
              rw [← hva]
              clear hva
              go_wp2
              go_ret
              exact ⟨rfl, HX13.out.st.fr⟩
end Go.Proofs.Ytniifefmjdjebaa
