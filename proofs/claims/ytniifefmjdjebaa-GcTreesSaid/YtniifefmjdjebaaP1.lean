/- Walk: GcReach. -/
import Derived.Test.YtniifefmjdjebaaP0
namespace Go.Proofs.Ytniifefmjdjebaa
open Go.RowKit
set_option linter.unusedVariables false
set_option linter.unusedSimpArgs false
/-- append onto a row that is owned, of whatever is read, in a plain region. -/
theorem wpList_append_any {P : Program} {w : World} {ops : Array Oper} {rest : List Oper} {o : Oper} {a : Act} {Q : Exit → Act → World → Prop} (hgd : o.guard = none) (s x : Operand) (t : TypeId)
    (ho : o.op = .call { callee := .builtin .append, args := #[s, x], argTypes := #[t, t] })
    (e : TypeId) (i : TypeInfo) (z : Value) (bytes : Nat) (ht : P.underlying t = some (.slice e)) (hi : P.info? e = some i) (hz : i.zero = some z)
    (hsize : i.size = 1) (hby : i.bytes = bytes) (hzs : z.cells.size = 1)
    (v : Value) (n : Nat) (xs : List Value) (hs : a.eval s = v) (hown : w.ownsRow 0 e 1 v n xs)
    (ao : Option Addr) (m c : Nat) (news : List Value) (hx : a.eval x = .slice ao m c) (hno : ao = none → m = 0 ∧ c = 0) (hl : news.length = m) (hnews : ∀ ad, ao = some ad → ∀ j u, news[j]? = some u → w.cell? (ad.add j) = some u) (h1 : ∀ u ∈ news, u.oneCell' = true)
    (h63 : n + m ≤ maxLen) (hbytes : (n + m) * bytes ≤ 140737488355328)
    (h : ∀ av cv w', w'.ownsRow 0 e 1 (.slice av (n + m) cv) (n + m) (xs ++ news) → w.grownBy w' v.ownBlock → ((Value.slice av (n + m) cv).ownBlock = v.ownBlock ∨ (Value.slice av (n + m) cv).ownBlock = some w.heap.size) → wpList P ops Q rest (a.put o.dst (.slice av (n + m) cv)) w') :
    wpList P ops Q (o :: rest) a w := by
  refine wpList_plain hgd fun K hK => ?_
  cases ao with
  | none =>
    obtain ⟨rfl, rfl⟩ := hno rfl
    obtain rfl : news = [] := List.eq_nil_of_length_eq_zero hl
    have hrun := run_append_owned_none (P := P) (w := w) 0 t o.type e i 1 ht hi v n xs hown
    obtain ⟨av, cv, rfl⟩ := row_form hown
    unfold Oper.wp
    simp [execOp, ho, resolve, invoke, builtin, hs, hx, hrun, Result.andThen]
    exact hK _ _ (h av cv w (by simpa using hown) (Fr.refl (fun _ => False) w |>.grown (fun _ _ h => h.elim)) (.inl rfl))
  | some ad =>
    obtain ⟨v', w', hrun, h2, h3, _, h5⟩ := run_append_own_at (P := P) (w := w) 0 t o.type e i z 1 bytes ht hi hz hsize hby hzs (by decide) v n xs hown ad m c news (by simpa using hl) (hnews ad rfl) h1 h63 hbytes (Nat.zero_le _)
    obtain ⟨av, cv, rfl⟩ := row_form h2
    unfold Oper.wp
    simp [execOp, ho, resolve, invoke, builtin, hs, hx, hrun, Result.andThen]
    exact hK _ _ (h av cv w' h2 h3 h5)
/-- What a row that is owned gives to an append of it. -/
theorem row_news {w : World} {e : TypeId} {ao : Option Addr} {m c : Nat} {xs : List Value} (h : w.ownsRow 0 e 1 (.slice ao m c) m xs) : (ao = none → m = 0 ∧ c = 0) ∧ xs.length = m ∧ ∀ ad, ao = some ad → ∀ j u, xs[j]? = some u → w.cell? (ad.add j) = some u := by
  refine ⟨fun e => ?_, by simpa using h.1, fun ad e j u hu => ?_⟩
  · subst e
    rcases h.2 with ⟨h1, h0⟩ | ⟨g, cap, cur, h1, _⟩
    · simp only [Value.slice.injEq, true_and] at h1; exact h1
    · simp at h1
  · subst e
    rcases h.2 with ⟨h1, h0⟩ | ⟨g, cap, cur, h1, _⟩
    · simp at h1
    · simp only [Value.slice.injEq, Option.some.injEq, true_and] at h1
      obtain ⟨rfl, rfl⟩ := h1
      rw [show (⟨g, 0, none⟩ : Addr).add j = ⟨g, j, none⟩ from by unfold Addr.add; split <;> simp_all]
      exact row_cell h hu
set_option maxRecDepth 100000 in
set_option maxHeartbeats 8000000 in
theorem GcReach_any (a0 : Option Addr) (n0 c0 : Nat) (o : Nat → ObjD) (a1 : Option Addr) (n1 c1 : Nat) (A : Nat → Option Addr) (L C : Nat → Nat) (z : Nat → Nat → Int) (a2 : Option Addr) (n2 c2 : Nat) (y2 : Nat → Int) (more : Int) (w : World)
    (h0 : ObjsIn w a0 n0 o) (h1 : TabIn w a1 n1 A L C z) (h2 : IntsIn w a2 n2 y2) (hm : I64 more) :
    Calls Try.prog 14 #[.slice a0 n0 c0, .slice a1 n1 c1, .slice a2 n2 c2, .int .i64 more] w fun e w' => e = .returned (.bool true) ∧ Fr (fun _ => False) w w' := by
  obtain ⟨i2, hi2, hz2, hs2, hb2⟩ := info_parts info2
  have HI := Lib.hid (And.intro h0 (And.intro h1 (And.intro h2 hm))); clear h0 h1 h2 hm
  go_enter Try.func14, Try.ntmps14
  go_wp2_with fail
  refine (gcKnown_any _).mono ?_
  rintro e w1 ⟨rfl, hf1⟩
  have HF1 := Lib.hid hf1; clear hf1
  go_wp2_with fail
  refine (made16_any a0 n0 c0 o _ (HI.out.1.keep HF1.out)).mono ?_
  rintro e w2 ⟨p, S, q, R, rfl, htwo⟩
  obtain ⟨s, hs⟩ : ∃ s, s = madeX n0 o := ⟨_, rfl⟩
  rw [← hs] at htwo
  have HT := Lib.hid htwo
  clear htwo hs
  go_wp2_with fail
  refine (table_any a1 n1 c1 A L C z _ (HI.out.2.1.keep (HF1.out.trans HT.out.fr (fun _ h => h) (fun _ _ h => h)))).mono ?_
  rintro e w3 ⟨tv, rs, rfl, q1, q2⟩
  obtain ⟨T, hT⟩ : ∃ T, T = tabT n1 L z := ⟨_, rfl⟩
  rw [← hT] at q1
  obtain ⟨at_, ct, rfl⟩ := row_form q1.row
  have H3 := Lib.hid (And.intro q1 q2)
  clear q1 q2 hT
  obtain ⟨lt, hlt⟩ : ∃ lt, lt = T.length := ⟨_, rfl⟩
  rw [← hlt] at H3 ⊢
  clear hlt
  go_wp2_with fail
  refine (roots_any q R s a2 n2 c2 y2 _ (HT.out.r.keep H3.out.2 (fun _ _ h => h)) HT.out.a.good (HI.out.2.2.1.keep ((HF1.out.trans HT.out.fr (fun _ h => h) (fun _ _ h => h)).trans H3.out.2 (fun _ h => h) (fun _ _ h => h)))).mono ?_
  rintro e w4 ⟨rv, rfl, q1, q2, q3⟩
  have hI4 := rootsOf_I64 HT.out.a.good.small HI.out.2.2.1.fit
  have hl4 : (rootsOf (addrs 0 s.used) n2 y2).length ≤ 20 := by unfold rootsOf; rw [rootsK_length]; omega
  obtain ⟨rts, hrts⟩ : ∃ rts, rts = rootsOf (addrs 0 s.used) n2 y2 := ⟨_, rfl⟩
  rw [← hrts] at q1 hI4 hl4
  rw [List.length_map] at q1
  obtain ⟨ar, cr, rfl⟩ := row_form q1
  obtain ⟨nr, hnr⟩ : ∃ nr, nr = rts.length := ⟨_, rfl⟩
  have Hnr := Lib.hid hnr
  have HB := Lib.hid (show IsArena w4 p S s ∧ TabIs w4 (.slice at_ lt ct) T (fun k => w2.heap.size ≤ k) rs ∧ w4.ownsRow 0 2 1 (.slice ar rts.length cr) rts.length (rts.map (Value.int .i64)) ∧ Fr (fun _ => False) w w4 ∧ (∀ x ∈ rts, I64 x) from
    ⟨(HT.out.kept H3.out.2).kept q2 |>.a, H3.out.1.keep q2 (fun _ _ h => h), q1, ((HF1.out.trans HT.out.fr (fun _ h => h) (fun _ _ h => h)).trans H3.out.2 (fun _ h => h) (fun _ _ h => h)).trans q2 (fun _ h => h) (fun _ _ h => h), hI4⟩)
  rw [← hnr] at HB hl4 ⊢
  clear q1 q2 q3 hI4 hrts hnr
  go_wp2_with fail
  refine (Reach_any p _ _ _ _ rts S s T _ rs _ HB.out.1 HB.out.2.1 (by rw [← Hnr.out]; exact HB.out.2.2.1)).mono ?_
  rintro e w5 ⟨pv, rfl, q1, q2, q3⟩
  obtain ⟨P, hP⟩ : ∃ P, P = reach s T rts := ⟨_, rfl⟩
  have HP := Lib.hid hP
  rw [← hP, List.length_map] at q1
  obtain ⟨ap, cp, rfl⟩ := row_form q1
  obtain ⟨np, hnp⟩ : ∃ n, n = P.length := ⟨_, rfl⟩
  have Hnp := Lib.hid hnp
  rw [← hnp] at q1 ⊢
  have H5 := Lib.hid (And.intro q1 q2)
  have hrn := q2.row HB.out.2.2.1 (fun _ _ h => h)
  obtain ⟨f1, f2, f3⟩ := row_news hrn
  have HN := Lib.hid (And.intro f1 (And.intro f2 f3))
  have hE : (w5.alloc (.cells #[] 2)).ownsRow 0 2 1 (.slice (some ⟨w5.heap.size, 0, none⟩) 0 0) 0 [] := World.ownsRow_lit (base := 0) (e := 2) (size := 1) w5 #[] 0 (Nat.zero_le _) (by unfold maxLen; omega) rfl
  have HE := Lib.hid hE
  clear q1 q2 q3 hP hnp hrn f1 f2 f3 hE
  go_wp2_with (first | (at_builtin; refine wpList_append_any rfl _ _ 38 rfl 2 i2 (.int .i64 0) 8 und38 hi2 hz2 hs2 hb2 rfl _ 0 [] rfl HE.out ar nr cr (rts.map (Value.int .i64)) rfl HN.out.1 HN.out.2.1 (fun ad e j u hu => (Fr.alloc (fun _ => False) w5 _).cell (HN.out.2.2 ad e j u hu) id) (by simp [Value.oneCell']) (by unfold maxLen; omega) (by omega) ?_))
  intro mv cm w6 hown hgr hloc
  have H6 := Lib.hid (show Fr (fun _ => False) w5 w6 ∧ w6.ownsRow 0 2 1 (.slice mv nr cm) nr (rts.map (Value.int .i64)) ∧ (∀ k, (Value.slice mv nr cm).ownBlock = some k → w5.heap.size ≤ k) from by
    refine ⟨(Fr.alloc (fun _ => False) w5 _).trans (Fr.of_grown (S := fun i => i = w5.heap.size) hgr (fun i hi => by simpa [Value.ownBlock] using hi.symm)) (fun _ h => h) (fun i hi e => by omega), by simpa using hown, fun k hk => ?_⟩
    rcases hloc with h | h
    · rw [h] at hk
      have : w5.heap.size = k := by simpa [Value.ownBlock] using hk
      omega
    · rw [h] at hk
      have h8 : w5.heap.size + 1 = k := Option.some.inj hk
      omega)
  clear hown hgr hloc
  go_wp2_with (first | (at_builtin; refine wpList_append_own_at _ rfl _ _ 38 rfl 0 2 i2 (.int .i64 0) 1 8 und38 hi2 hz2 hs2 hb2 rfl (by decide) _ _ _ rfl (H6.out.2.1.alloc _) ⟨w6.heap.size, 0, none⟩ 1 1 [.int .i64 more] rfl rfl (fun j u hu => cell_one_new _ _ _ j u hu) (by intro u hu; simp at hu; subst hu; rfl) (by unfold maxLen; omega) (by omega) (Nat.zero_le _) ?_))
  intro v7 w7 hown7 hgr7 _ hloc7
  have H7 := Lib.hid (show Fr (fun _ => False) w5 w7 ∧ w7.ownsRow 0 2 1 v7 (rts ++ [more]).length ((rts ++ [more]).map (Value.int .i64)) from by
    refine ⟨(H6.out.1.trans (Fr.alloc (fun _ => False) w6 _) (fun _ h => h) (fun _ _ h => h)).trans (Fr.of_grown (S := fun k => w5.heap.size ≤ k) hgr7 (fun k hk => H6.out.2.2 k hk)) (fun _ h => h) (fun i hi e => by omega), ?_⟩
    rw [List.length_append, List.map_append, ← Hnr.out]
    exact hown7)
  clear hown7 hgr7 hloc7
  have HB7 := Lib.hid (show IsArena w7 p S s ∧ TabIs w7 (.slice at_ lt ct) T (fun k => w2.heap.size ≤ k) rs from ⟨HB.out.1.keep (H5.out.2.trans H7.out.1 (fun _ h => h) (fun _ _ h => h)) (fun _ _ h => h), HB.out.2.1.keep (H5.out.2.trans H7.out.1 (fun _ h => h) (fun _ _ h => h)) (fun _ _ h => h)⟩)
  go_wp2_with fail
  refine (Reach_any p _ _ _ _ (rts ++ [more]) S s T _ rs _ HB7.out.1 HB7.out.2 H7.out.2).mono ?_
  rintro e w8 ⟨qv, rfl, q1, q2, q3⟩
  obtain ⟨Q, hQ⟩ : ∃ Q, Q = reach s T (rts ++ [more]) := ⟨_, rfl⟩
  have HQ := Lib.hid hQ
  rw [← hQ, List.length_map] at q1
  obtain ⟨aq, cq, rfl⟩ := row_form q1
  obtain ⟨nq', hnq⟩ : ∃ n, n = Q.length := ⟨_, rfl⟩
  have Hnq := Lib.hid hnq
  rw [← hnq] at q1 ⊢
  have hPo : ∀ a ∈ P, isOb s a = true := fun a ha => (reach_good s T rts).2 a (HP.out ▸ ha)
  have hQo : ∀ a ∈ Q, isOb s a = true := fun a ha => (reach_good s T (rts ++ [more])).2 a (HQ.out ▸ ha)
  have hPQ : ∀ a ∈ P, a ∈ Q := fun a ha => by rw [HQ.out]; rw [HP.out] at ha; exact reach_mono (fun a ha => List.mem_append_left _ ha) a ha
  have hPn : P.Nodup := by rw [HP.out]; exact (reach_good s T rts).1
  have hle : np ≤ nq' := by rw [Hnp.out, Hnq.out]; exact nodup_sub_len _ _ hPn hPQ
  have hpl : np ≤ 1048576 := by
    rw [Hnp.out, HP.out]
    have h7 := reach_len s T rts
    have h8 := len_le_tot s.used
    have h9 := HB.out.1.good.small
    omega
  have HPf := Lib.hid (And.intro hPo (And.intro hQo (And.intro hPQ hPn)))
  have HC := Lib.hid (fun (W : World) (hW : Fr (fun _ => False) w8 W) => (show IsArena W p S s ∧ TabIs W (.slice at_ lt ct) T (fun k => w2.heap.size ≤ k) rs ∧ W.ownsRow 0 2 1 (.slice ar nr cr) nr (rts.map (Value.int .i64)) ∧ W.ownsRow 0 2 1 (.slice ap np cp) np (P.map (Value.int .i64)) ∧ IntsIn W ap np (fun j => P[j]?.getD 0) ∧ IntsIn W aq nq' (fun j => Q[j]?.getD 0) from by
    have f58 : Fr (fun _ => False) w5 W := (H7.out.1.trans q2 (fun _ h => h) (fun _ _ h => h)).trans hW (fun _ h => h) (fun _ _ h => h)
    have f48 : Fr (fun _ => False) w4 W := H5.out.2.trans f58 (fun _ h => h) (fun _ _ h => h)
    have hp := f58.row H5.out.1 (fun _ _ h => h)
    exact ⟨HB.out.1.keep f48 (fun _ _ h => h), HB.out.2.1.keep f48 (fun _ _ h => h), f48.row HB.out.2.2.1 (fun _ _ h => h), hp, row_ints hp (fun a ha => isOb_I64 HB.out.1.good (hPo a ha)), row_ints (hW.row q1 (fun _ _ h => h)) (fun a ha => isOb_I64 HB.out.1.good (hQo a ha))⟩))
  have HF8 := Lib.hid (show Fr (fun _ => False) w w8 from (HB.out.2.2.2.1.trans (H5.out.2.trans H7.out.1 (fun _ h => h) (fun _ _ h => h)) (fun _ h => h) (fun _ _ h => h)).trans q2 (fun _ h => h) (fun _ _ h => h))
  clear q1 q2 q3 hQ hnq hPo hQo hPQ hPn
  go_wp2_with fail
  go_loopw [14] (fun x14 wr => ∃ k : Nat, k ≤ nr ∧ x14 = .int .i64 k ∧ Fr (fun _ => False) w8 wr) (fun x14 _ => (nr - intOf x14).toNat)
  case atStart => exact ⟨0, by omega, rfl, Fr.refl _ _⟩
  case round =>
    obtain ⟨k, hk, rfl, hfr⟩ := hrel
    have HFr := Lib.hid hfr; clear hfr
    by_cases hlt : k < nr
    · have hrr := (HC.out _ HFr.out).2.2.1
      obtain ⟨g, d, _, e1, _, _, _⟩ := row_addr hrr (by omega)
      simp only [Value.slice.injEq, true_and] at e1
      obtain ⟨rfl, rfl⟩ := e1
      have hcell := row_int hrr hlt
      obtain ⟨y, hy⟩ : ∃ y, y = rts[k]?.getD 0 := ⟨_, rfl⟩
      rw [← hy] at hcell
      have hyr : y ∈ rts := by
        have hkL : k < rts.length := by rw [← Hnr.out]; exact hlt
        rw [hy, List.getElem?_eq_getElem hkL, Option.getD_some]; exact List.getElem_mem hkL
      have HCd := Lib.hid (fun n => HC.out (wr.drewN n) (HFr.out.trans (Fr.drewN _ wr n) (fun _ h => h) (fun _ _ h => h)))
      have HFd := Lib.hid (fun n => HFr.out.trans (Fr.drewN _ wr n) (fun _ h => h) (fun _ _ h => h))
      clear hrr hy
      by_cases hob : isOb s y = true
      · have hyP : y ∈ P := by rw [HP.out]; exact reach_roots hyr hob
        have hgo : goesTo np (fun j => P[j]?.getD 0) (fun j => P[j]?.getD 0) y = y := by rw [Hnp.out]; exact goesTo_self hyP
        have HW52 := Lib.hid (fun n => (show Calls Try.prog 52 #[.pointer (some ⟨p, 0, none⟩), .int .i64 y] (wr.drewN n) fun e w' => e = .returned (.bool true) ∧ w' = wr.drewN n from by
          have h7 := whole_any p y S s _ (HCd.out n).1
          rw [hob] at h7; exact h7))
        have HW53 := Lib.hid (fun n => (show Calls Try.prog 53 #[.slice ap np cp, .slice ap np cp, .int .i64 y] (wr.drewN n) fun e w' => e = .returned (.int .i64 y) ∧ w' = wr.drewN n from by
          have h7 := to_any ap ap np cp np cp _ _ y _ (HCd.out n).2.2.2.2.1 (HCd.out n).2.2.2.2.1 (Nat.le_refl _)
          rw [hgo] at h7; exact h7))
        clear hyr hyP hgo hob
        go_wp2_with fail
        go_quiet ((first | (go_at_call 52; exact Calls.quiet_of_same (HW52.out _)) | (go_at_call 53; exact Calls.quiet_of_same (HW53.out _))))
        go_wp2
        go_roundw
        case rel => exact ⟨k + 1, by omega, by go_num, HFd.out _⟩
        case measure => simp [intOf]; omega
      · have hob2 : isOb s y = false := by simpa using hob
        have HW52 := Lib.hid (fun n => (show Calls Try.prog 52 #[.pointer (some ⟨p, 0, none⟩), .int .i64 y] (wr.drewN n) fun e w' => e = .returned (.bool false) ∧ w' = wr.drewN n from by
          have h7 := whole_any p y S s _ (HCd.out n).1
          rw [hob2] at h7; exact h7))
        clear hyr hob hob2
        go_wp2_with fail
        go_quiet ((first | (go_at_call 52; exact Calls.quiet_of_same (HW52.out _))))
        go_wp2
        go_roundw
        case rel => exact ⟨k + 1, by omega, by go_num, HFd.out _⟩
        case measure => simp [intOf]; omega
    · have HFa := Lib.hid HFr.out
      go_wp2_with fail
      go_loopw [15] (fun x15 wz => ∃ i : Nat, i ≤ np ∧ x15 = .int .i64 i ∧ Fr (fun _ => False) w8 wz) (fun x15 _ => (np - intOf x15).toNat)
      case atStart => exact ⟨0, by omega, rfl, HFa.out⟩
      case round =>
        clear HFa HFr
        obtain ⟨i, hi, rfl, hfr⟩ := hrel
        have HFr := Lib.hid hfr; clear hfr
        by_cases hil : i < np
        · have hrr := (HC.out _ HFr.out).2.2.2.1
          obtain ⟨g, d, _, e1, _, _, _⟩ := row_addr hrr (by omega)
          simp only [Value.slice.injEq, true_and] at e1
          obtain ⟨rfl, rfl⟩ := e1
          have hcell := row_int hrr hil
          obtain ⟨y, hy⟩ : ∃ y, y = P[i]?.getD 0 := ⟨_, rfl⟩
          rw [← hy] at hcell
          have hyl : P[i]? = some y := by
            have hkL : i < P.length := by rw [← Hnp.out]; exact hil
            rw [hy, List.getElem?_eq_getElem hkL]; rfl
          have hyP : y ∈ P := List.mem_of_getElem? hyl
          have hob : isOb s y = true := HPf.out.1 y hyP
          have hy8 : 8 ≤ y := (addrs_I64 HB.out.1.good.small y ((mem_addrs s.used 0 y).2 hob)).1
          have HCd := Lib.hid (fun n => HC.out (wr.drewN n) (HFr.out.trans (Fr.drewN _ wr n) (fun _ h => h) (fun _ _ h => h)))
          have HW52 := Lib.hid (fun n => (show Calls Try.prog 52 #[.pointer (some ⟨p, 0, none⟩), .int .i64 y] (wr.drewN n) fun e w' => e = .returned (.bool true) ∧ w' = wr.drewN n from by
            have h7 := whole_any p y S s _ (HCd.out n).1
            rw [hob] at h7; exact h7))
          have HW53q := Lib.hid (fun n => (show Calls Try.prog 53 #[.slice aq nq' cq, .slice aq nq' cq, .int .i64 y] (wr.drewN n) fun e w' => e = .returned (.int .i64 y) ∧ w' = wr.drewN n from by
            have h7 := to_any aq aq nq' cq nq' cq _ _ y _ (HCd.out n).2.2.2.2.2 (HCd.out n).2.2.2.2.2 (Nat.le_refl _)
            rw [show goesTo nq' (fun j => Q[j]?.getD 0) (fun j => Q[j]?.getD 0) y = y from by rw [Hnq.out]; exact goesTo_self (HPf.out.2.2.1 y hyP)] at h7; exact h7))
          have HW53p := Lib.hid (fun n => (show Calls Try.prog 53 #[.slice (some ⟨g, 0, none⟩) i cp, .slice (some ⟨g, 0, none⟩) i cp, .int .i64 y] (wr.drewN n) fun e w' => e = .returned (.int .i64 (-1)) ∧ w' = wr.drewN n from by
            have h7 := to_any _ _ i cp i cp _ _ y _ ((HCd.out n).2.2.2.2.1.take (by omega : i ≤ np)) ((HCd.out n).2.2.2.2.1.take (by omega : i ≤ np)) (Nat.le_refl _)
            rw [goesTo_front HPf.out.2.2.2 hyl] at h7; exact h7))
          have hne : ((-1 : Int) == y) = false := by simp; omega
          have HY := Lib.hid (And.intro hyl (And.intro hyP hob))
          clear hrr hy hyl hyP hob
          go_wp2_with fail
          go_quiet ((first | (go_at_call 52; exact Calls.quiet_of_same (HW52.out _)) | (go_at_call_of 53 aq; exact Calls.quiet_of_same (HW53q.out _)) | (go_at_call 53; exact Calls.quiet_of_same (HW53p.out _))))
          have HX := Lib.hid (isOb_some HY.out.2.2)
          go_wp2_with fail
          refine (good_any p _ y S s (obAt s y) T _ rs _ (HCd.out _).1 HX.out (HCd.out _).2.1).mono ?_
          rintro e w9 ⟨gv, rfl, q1, q2, q3⟩
          obtain ⟨G, hG⟩ : ∃ G, G = goodG T (obAt s y) := ⟨_, rfl⟩
          have HGd := Lib.hid hG
          rw [← hG, List.length_map] at q1
          obtain ⟨ag, cg, rfl⟩ := row_form q1
          obtain ⟨ng, hng⟩ : ∃ n, n = G.length := ⟨_, rfl⟩
          have Hng := Lib.hid hng
          rw [← hng] at q1 ⊢
          have hgl := row_maxLen q1
          have HF9 := Lib.hid (show Fr (fun _ => False) w8 w9 from (HFr.out.trans (Fr.drewN _ wr _) (fun _ h => h) (fun _ _ h => h)).trans q2 (fun _ h => h) (fun _ _ h => h))
          have H9 := Lib.hid q1
          clear q1 q2 q3 hG hng hcell hne hy8
          go_wp2_with fail
          go_loopw [17] (fun x17 wz => ∃ j : Nat, j ≤ ng ∧ x17 = .int .i64 j ∧ Fr (fun _ => False) w9 wz) (fun x17 _ => (ng - intOf x17).toNat)
          case atStart => exact ⟨0, by omega, rfl, Fr.refl _ _⟩
          case round =>
            obtain ⟨j, hj, rfl, hfr⟩ := hrel
            have HFj := Lib.hid hfr; clear hfr
            have HF8j := Lib.hid (HF9.out.trans HFj.out (fun _ h => h) (fun _ _ h => h))
            by_cases hjl : j < ng
            · have hrg := HFj.out.row H9.out (fun _ _ h => h)
              obtain ⟨gg, dg, _, eg, _, _, _⟩ := row_addr hrg (by omega)
              simp only [Value.slice.injEq, true_and] at eg
              obtain ⟨rfl, rfl⟩ := eg
              have hcg := row_int hrg hjl
              have hrp := (HC.out _ HF8j.out).2.2.2.1
              have hcp := row_int hrp hil
              rw [HY.out.1, Option.getD_some] at hcp
              obtain ⟨n, hn⟩ : ∃ n, n = G[j]?.getD 0 := ⟨_, rfl⟩
              rw [← hn] at hcg
              have hnG : n ∈ goodG T (obAt s y) := by
                have hkL : j < G.length := by rw [← Hng.out]; exact hjl
                rw [hn, List.getElem?_eq_getElem hkL, Option.getD_some, ← HGd.out]; exact List.getElem_mem hkL
              have HCj := Lib.hid (fun nd => HC.out (wr.drewN nd) (HF8j.out.trans (Fr.drewN _ wr nd) (fun _ h => h) (fun _ _ h => h)))
              have HGet := Lib.hid (fun nd => Get_any p y n S s (wr.drewN nd) (HCj.out nd).1)
              have HFd := Lib.hid (fun nd => HFj.out.trans (Fr.drewN _ wr nd) (fun _ h => h) (fun _ _ h => h))
              clear hrg hrp hn
              obtain ⟨v, hv⟩ : ∃ v, v = getV (some (obAt s y)) n := ⟨_, rfl⟩
              obtain ⟨ge, hge⟩ : ∃ ge, ge = slotE (some (obAt s y)) n := ⟨_, rfl⟩
              have HVP := Lib.hid (show isOb s v = true → v ∈ P from fun h => by
                rw [hv] at h ⊢
                rw [HP.out]
                have h7 := mem_goodG.1 hnG
                exact reach_closed (by rw [← HP.out]; exact HY.out.2.1) HX.out (mem_refsG.2 h7) h)
              have HVe := Lib.hid (And.intro hv hge)
              clear hnG hv hge
              go_wp2_with fail
              go_quiet ((first | (go_at_call 32; exact Calls.quiet_of (HGet.out _))))
              rw [HX.out, ← HVe.out.1, ← HVe.out.2]
              go_wp2_with fail
              refine (whole_any p v S s _ (HCj.out _).1).mono ?_
              rintro e w11 ⟨rfl, hw11⟩
              have HF11 := Lib.hid (show Fr (fun _ => False) w9 w11 from by rw [hw11]; exact HFd.out _)
              clear hw11 hcg hcp
              by_cases hob : isOb s v = true
              · rw [hob]
                have hgo : goesTo np (fun j => P[j]?.getD 0) (fun j => P[j]?.getD 0) v = v := by rw [Hnp.out]; exact goesTo_self (HVP.out hob)
                have HGo := Lib.hid hgo
                have HC11 := Lib.hid (HC.out w11 (HF9.out.trans HF11.out (fun _ h => h) (fun _ _ h => h)))
                clear hob hgo
                go_wp2_with fail
                refine (to_any _ _ _ _ _ _ _ _ v _ HC11.out.2.2.2.2.1 HC11.out.2.2.2.2.1 (Nat.le_refl _)).mono ?_
                rw [HGo.out]
                rintro e w12 ⟨rfl, rfl⟩
                go_wp2
                go_roundw
                case rel => exact ⟨j + 1, by omega, by go_num, HF11.out⟩
                case measure => simp [intOf]; omega
              · have hob2 : isOb s v = false := by simpa using hob
                rw [hob2]
                clear hob hob2
                go_wp2
                go_roundw
                case rel => exact ⟨j + 1, by omega, by go_num, HF11.out⟩
                case measure => simp [intOf]; omega
            · go_wp2
              go_roundw
              case rel => exact ⟨i + 1, by omega, by go_num, HF8j.out⟩
              case measure => simp [intOf]; omega
        · have hgo : (np : Int) ≤ (nq' : Int) := by omega
          go_wp2
          go_ret
          exact ⟨rfl, HF8.out.trans HFr.out (fun _ h => h) (fun _ _ h => h)⟩
end Go.Proofs.Ytniifefmjdjebaa
