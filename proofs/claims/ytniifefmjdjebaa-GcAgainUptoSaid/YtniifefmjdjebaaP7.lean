/- Walk: GcAgain. -/
import Derived.Test.YtniifefmjdjebaaP6
import Derived.Test.YtniifefmjdjebaaP2
namespace Go.Proofs.Ytniifefmjdjebaa
open Go.RowKit
set_option linter.unusedVariables false
set_option linter.unusedSimpArgs false
theorem take_of {xs : List Int} {k : Nat} (h : k < xs.length) : xs.take (k + 1) = xs.take k ++ [xs[k]?.getD 0] := by
  rw [List.take_succ_eq_append_getElem h, List.getElem?_eq_getElem h]; rfl
set_option maxRecDepth 100000 in
set_option maxHeartbeats 8000000 in
theorem GcAgain_any (a0 : Option Addr) (n0 c0 : Nat) (o : Nat → ObjD) (a1 : Option Addr) (n1 c1 : Nat) (A : Nat → Option Addr) (L C : Nat → Nat) (z : Nat → Nat → Int) (a2 : Option Addr) (n2 c2 : Nat) (y2 : Nat → Int) (w : World)
    (h0 : ObjsIn w a0 n0 o) (h1 : TabIn w a1 n1 A L C z) (h2 : IntsIn w a2 n2 y2) :
    Calls Try.prog 16 #[.slice a0 n0 c0, .slice a1 n1 c1, .slice a2 n2 c2] w fun e w' => e = .returned (.bool true) ∧ Fr (fun _ => False) w w' := by
  have HI := Lib.hid (And.intro h0 (And.intro h1 h2)); clear h0 h1 h2
  go_enter Try.func16, Try.ntmps16
  go_wp2_with fail
  refine (gcKnown_any _).mono ?_
  rintro e w1 ⟨rfl, hf1⟩
  have HF1 := Lib.hid hf1; clear hf1
  go_wp2_with fail
  refine (made16_any a0 n0 c0 o _ (HI.out.1.keep HF1.out)).mono ?_
  rintro e w2 ⟨p, S, q, R, rfl, htwo⟩
  obtain ⟨s, hs⟩ : ∃ s, s = madeX n0 o := ⟨_, rfl⟩
  rw [← hs] at htwo
  have HT := Lib.hid htwo
  clear htwo hs
  go_wp2_with fail
  refine (table_any a1 n1 c1 A L C z _ (HI.out.2.1.keep (HF1.out.trans HT.out.fr (fun _ h => h) (fun _ _ h => h)))).mono ?_
  rintro e w3 ⟨tv, rs, rfl, q1, q2⟩
  obtain ⟨T, hT⟩ : ∃ T, T = tabT n1 L z := ⟨_, rfl⟩
  rw [← hT] at q1
  obtain ⟨at_, ct, rfl⟩ := row_form q1.row
  have H3 := Lib.hid (And.intro q1.tight q2)
  clear q1 q2 hT
  obtain ⟨lt, hlt⟩ : ∃ lt, lt = T.length := ⟨_, rfl⟩
  rw [← hlt] at H3 ⊢
  clear hlt
  obtain ⟨D, hD⟩ : ∃ D : Nat → Prop, D = fun k => w2.heap.size ≤ k ∧ k < w3.heap.size := ⟨_, rfl⟩
  rw [← hD] at H3
  have HD := Lib.hid (show ∀ k, D k → ¬ S k from fun k hk e => by rw [hD] at hk; have := HT.out.a.lt e; omega)
  have HDl := Lib.hid (show ∀ k, D k → k < w3.heap.size from fun k hk => by rw [hD] at hk; exact hk.2)
  clear hD
  go_wp2_with fail
  refine (All_any p S s _ (HT.out.kept H3.out.2).a).mono ?_
  rintro e w4 ⟨lv, rfl, q1, q2, q3⟩
  obtain ⟨al, hal⟩ : ∃ al, al = addrs 0 s.used := ⟨_, rfl⟩
  have HAl := Lib.hid hal
  rw [← hal, List.length_map] at q1
  obtain ⟨aa, ca, rfl⟩ := row_form q1
  obtain ⟨nl, hnl⟩ : ∃ nl, nl = al.length := ⟨_, rfl⟩
  have Hnl := Lib.hid hnl
  rw [← hnl] at q1 ⊢
  have hnlm := row_maxLen q1
  have HB := Lib.hid (fun (W : World) (hW : Fr (fun _ => False) w4 W) => (show Two w1 W p S s q R s ∧ TabIs W (.slice at_ lt ct) T D rs ∧ W.ownsRow 0 2 1 (.slice aa nl ca) nl (al.map (Value.int .i64)) from
    ⟨((HT.out.kept H3.out.2).kept q2).kept hW, (H3.out.1.keep q2 (fun _ _ h => h)).keep hW (fun _ _ h => h), hW.row q1 (fun _ _ h => h)⟩))
  have H34 := Lib.hid (show w3.heap.size ≤ w4.heap.size from q2.size)
  clear q1 q2 q3 hal hnl
  go_wp2_with fail
  go_loopw [11] (fun x11 wr => ∃ i : Nat, i ≤ nl ∧ x11 = .int .i64 i ∧ Fr (fun _ => False) w4 wr ∧ Clean s T (al.take i)) (fun x11 _ => (nl - intOf x11).toNat)
  case atStart => exact ⟨0, by omega, rfl, Fr.refl _ _, fun a ha => by simp at ha⟩
  case round =>
    obtain ⟨i, hi, rfl, hfr, hcl⟩ := hrel
    have HFr := Lib.hid (And.intro hfr hcl); clear hfr hcl
    by_cases hil : i < nl
    · have hrr := (HB.out _ HFr.out.1).2.2
      obtain ⟨g, d, _, e1, _, _, _⟩ := row_addr hrr (by omega)
      simp only [Value.slice.injEq, true_and] at e1
      obtain ⟨rfl, rfl⟩ := e1
      have hcell := row_int hrr hil
      have hil2 : i < al.length := by rw [← Hnl.out]; exact hil
      have htk := take_of hil2
      obtain ⟨y, hy⟩ : ∃ y, y = al[i]?.getD 0 := ⟨_, rfl⟩
      rw [← hy] at hcell htk
      have hob : isOb s y = true := by
        rw [List.getElem?_eq_getElem hil2, Option.getD_some] at hy
        exact (mem_addrs s.used 0 y).1 (by rw [hy, ← HAl.out]; exact List.getElem_mem hil2)
      have HX := Lib.hid (And.intro (isOb_some hob) (And.intro hy htk))
      clear hrr hil2 hy hob htk
      go_wp2_with fail
      refine (good_any p _ y S s (obAt s y) T _ rs _ (HB.out _ HFr.out.1).1.a HX.out.1 (HB.out _ HFr.out.1).2.1).mono ?_
      rintro e w5 ⟨gv, rfl, q1, q2, q3⟩
      obtain ⟨G, hG⟩ : ∃ G, G = goodG T (obAt s y) := ⟨_, rfl⟩
      have HGd := Lib.hid hG
      rw [← hG, List.length_map] at q1
      obtain ⟨ag, cg, rfl⟩ := row_form q1
      obtain ⟨ng, hng⟩ : ∃ n, n = G.length := ⟨_, rfl⟩
      have Hng := Lib.hid hng
      rw [← hng] at q1 ⊢
      have hgl := row_maxLen q1
      have H5 := Lib.hid (And.intro (HFr.out.1.trans q2 (fun _ h => h) (fun _ _ h => h)) q1)
      clear q1 q2 q3 hG hng hcell
      go_wp2_with fail
      go_loopw [13] (fun x13 wz => ∃ j : Nat, j ≤ ng ∧ x13 = .int .i64 j ∧ Fr (fun _ => False) w5 wz ∧ ∀ n ∈ G.take j, getV (some (obAt s y)) n = 0 ∨ isOb s (getV (some (obAt s y)) n) = true) (fun x13 _ => (ng - intOf x13).toNat)
      case atStart => exact ⟨0, by omega, rfl, Fr.refl _ _, fun n hn => by simp at hn⟩
      case round =>
        obtain ⟨j, hj, rfl, hfr, hok⟩ := hrel
        have HFj := Lib.hid (And.intro hfr hok); clear hfr hok
        have HF4 := Lib.hid (H5.out.1.trans HFj.out.1 (fun _ h => h) (fun _ _ h => h))
        by_cases hjl : j < ng
        · have hrg := HFj.out.1.row H5.out.2 (fun _ _ h => h)
          obtain ⟨gg, dg, _, eg, _, _, _⟩ := row_addr hrg (by omega)
          simp only [Value.slice.injEq, true_and] at eg
          obtain ⟨rfl, rfl⟩ := eg
          have hcg := row_int hrg hjl
          have hcp := row_int (HB.out _ HF4.out).2.2 hil
          rw [← HX.out.2.1] at hcp
          have hjl2 : j < G.length := by rw [← Hng.out]; exact hjl
          have htk := take_of hjl2
          obtain ⟨n, hn⟩ : ∃ n, n = G[j]?.getD 0 := ⟨_, rfl⟩
          rw [← hn] at hcg htk
          have HCj := Lib.hid (fun nd => HB.out (wr.drewN nd) (HF4.out.trans (Fr.drewN _ wr nd) (fun _ h => h) (fun _ _ h => h)))
          have HGet := Lib.hid (fun nd => Get_any p y n S s (wr.drewN nd) (HCj.out nd).1.a)
          have HFd := Lib.hid (fun nd => HFj.out.1.trans (Fr.drewN _ wr nd) (fun _ h => h) (fun _ _ h => h))
          obtain ⟨v, hv⟩ : ∃ v, v = getV (some (obAt s y)) n := ⟨_, rfl⟩
          obtain ⟨ge, hge⟩ : ∃ ge, ge = slotE (some (obAt s y)) n := ⟨_, rfl⟩
          have HNx := Lib.hid (show (v = 0 ∨ isOb s v = true) → ∀ m ∈ G.take (j + 1), getV (some (obAt s y)) m = 0 ∨ isOb s (getV (some (obAt s y)) m) = true from fun h m hm => by
            rw [htk] at hm
            rcases List.mem_append.1 hm with hm | hm
            · exact HFj.out.2 m hm
            · simp only [List.mem_singleton] at hm; subst hm; rw [← hv]; exact h)
          have HVe := Lib.hid (And.intro hv hge)
          clear hrg hn hjl2 htk hv hge
          go_wp2_with fail
          go_quiet ((first | (go_at_call 32; exact Calls.quiet_of (HGet.out _))))
          rw [HX.out.1, ← HVe.out.1, ← HVe.out.2]
          by_cases hv0 : v = 0
          · have HN := Lib.hid (HNx.out (.inl hv0))
            subst hv0
            go_wp2
            go_roundw
            case rel => exact ⟨j + 1, by omega, by go_num, HFd.out _, HN.out⟩
            case measure => simp [intOf]; omega
          · have hb : (v != 0) = true := by simpa using hv0
            go_wp2_with fail
            refine (whole_any p v S s _ (HCj.out _).1.a).mono ?_
            rintro e w11 ⟨rfl, hw11⟩
            have HF11 := Lib.hid (show Fr (fun _ => False) w5 w11 from by rw [hw11]; exact HFd.out _)
            clear hw11 hcg hcp
            by_cases hob : isOb s v = true
            · rw [hob]
              have HN := Lib.hid (HNx.out (.inr hob))
              clear hob
              go_wp2
              go_roundw
              case rel => exact ⟨j + 1, by omega, by go_num, HF11.out, HN.out⟩
              case measure => simp [intOf]; omega
            · have hob2 : isOb s v = false := by simpa using hob
              rw [hob2]
              clear hob hob2
              go_wp2
              go_ret
              exact ⟨rfl, (HF1.out.trans (HB.out _ (Fr.refl _ _)).1.fr (fun _ h => h) (fun _ _ h => h)).trans (H5.out.1.trans HF11.out (fun _ h => h) (fun _ _ h => h)) (fun _ h => h) (fun _ _ h => h)⟩
        · have HN := Lib.hid (show Clean s T (al.take (i + 1)) from fun a ha n hn => by
            rw [HX.out.2.2] at ha
            rcases List.mem_append.1 ha with ha | ha
            · exact HFr.out.2 a ha n hn
            · simp only [List.mem_singleton] at ha
              subst ha
              refine HFj.out.2 n ?_
              rw [List.take_of_length_le (by rw [← Hng.out]; omega), HGd.out]; exact hn)
          go_wp2
          go_roundw
          case rel => exact ⟨i + 1, by omega, by go_num, HF4.out, HN.out⟩
          case measure => simp [intOf]; omega
    · have HClean := Lib.hid (show ∀ rts, Clean s T (reach s T rts) from fun rts a ha => HFr.out.2 a (by
        rw [List.take_of_length_le (by rw [← Hnl.out]; omega), HAl.out]
        exact (mem_addrs s.used 0 a).2 ((reach_good s T rts).2 a ha)))
      have HB4 := Lib.hid (HB.out _ HFr.out.1)
      go_wp2_with fail
      refine (roots_any q R s a2 n2 c2 y2 _ HB4.out.1.r HB4.out.1.a.good (HI.out.2.2.keep (HF1.out.trans HB4.out.1.fr (fun _ h => h) (fun _ _ h => h)))).mono ?_
      rintro e w5 ⟨rv, rfl, q1, q2, q3⟩
      have hl4 : (rootsOf (addrs 0 s.used) n2 y2).length ≤ 20 := by unfold rootsOf; rw [rootsK_length]; omega
      obtain ⟨rts, hrts⟩ : ∃ rts, rts = rootsOf (addrs 0 s.used) n2 y2 := ⟨_, rfl⟩
      rw [← hrts] at q1 hl4
      rw [List.length_map] at q1
      obtain ⟨ar, cr, rfl⟩ := row_form q1
      obtain ⟨nr, hnr⟩ : ∃ nr, nr = rts.length := ⟨_, rfl⟩
      have Hnr := Lib.hid hnr
      have H5 := Lib.hid (show IsArena w5 p S s ∧ TabIs w5 (.slice at_ lt ct) T D rs ∧ w5.ownsRow 0 2 1 (.slice ar rts.length cr) rts.length (rts.map (Value.int .i64)) ∧ (∀ k, (Value.slice ar rts.length cr).ownBlock = some k → ¬ S k) ∧ Fr (fun _ => False) w w5 ∧ (∀ k, D k → k < w5.heap.size) ∧ (∀ k, S k → w.heap.size ≤ k) from
        ⟨HB4.out.1.a.keep q2 (fun _ _ h => h), HB4.out.2.1.keep q2 (fun _ _ h => h), q1, fun k hk e => by have h7 := q3 k hk; have h8 := HB4.out.1.a.lt e; omega, (HF1.out.trans HB4.out.1.fr (fun _ h => h) (fun _ _ h => h)).trans q2 (fun _ h => h) (fun _ _ h => h),
          fun k hk => by have h7 := HDl.out k hk; have h8 := H34.out; have h9 := HFr.out.1.size; have h6 := q2.size; omega, fun k hk => by have h7 := HB4.out.1.newA k hk; have h8 := HF1.out.size; omega⟩)
      rw [← hnr] at H5 hl4 ⊢
      clear q1 q2 q3 hrts hnr
      by_cases hok : rootsOk s rts
      · go_wp2_with fail
        refine (Collect_ok p _ _ _ _ rts S s T _ rs _ H5.out.1 (by rw [← Hnr.out]; exact H5.out.2.2.1) hok H5.out.2.1 HD.out H5.out.2.2.2.1 (by rw [← Hnr.out]; omega)).mono ?_
        rintro e w6 ⟨uv, rfl, r1, r2, S', r3, r4, r5, r6⟩
        obtain ⟨hok2, hag1, hag2⟩ := collect_again s T rts hok (HClean.out rts)
        obtain ⟨s2, hs2⟩ : ∃ s2, s2 = collectS s T rts := ⟨_, rfl⟩
        obtain ⟨now, hnow⟩ : ∃ now, now = collectR s T rts := ⟨_, rfl⟩
        have hnl : now.length = nr := by rw [hnow]; unfold collectR; rw [List.length_map]; exact Hnr.out.symm
        rw [← hs2, ← hnow] at hok2 hag1 hag2
        rw [← hs2] at r3
        rw [← hnow, ← Hnr.out] at r1
        obtain ⟨au, cu, rfl⟩ := row_form r1
        have HAg := Lib.hid (And.intro hok2 (And.intro hag1 (And.intro hag2 hnl)))
        have H6 := Lib.hid (show IsArena w6 p S' s2 ∧ TabIs w6 (.slice at_ lt ct) T D rs ∧ w6.ownsRow 0 2 1 (.slice au nr cu) nr (now.map (Value.int .i64)) ∧ (∀ k, (Value.slice au nr cu).ownBlock = some k → ¬ S' k) ∧ (∀ k, D k → ¬ S' k) ∧ (∀ k, D k → k < w6.heap.size) ∧ Fr (fun _ => False) w w6 ∧ (∀ k, S' k → w.heap.size ≤ k) from
          ⟨r3, H5.out.2.1.keep r4 HD.out, r1, r6, fun k hk e => by
              rcases r5 k e with h | h
              · exact HD.out k hk h
              · have := H5.out.2.2.2.2.2.1 k hk; omega, fun k hk => by have := H5.out.2.2.2.2.2.1 k hk; have := r4.size; omega,
            H5.out.2.2.2.2.1.trans r4 (fun _ h => h) (fun i hi e => by have := H5.out.2.2.2.2.2.2 i e; omega), fun k hk => by
              rcases r5 k hk with h | h
              · exact H5.out.2.2.2.2.2.2 k h
              · have := H5.out.2.2.2.2.1.size; omega⟩)
        obtain ⟨X, hX⟩ : ∃ X, X = strOfNums (encs s2.used) := ⟨_, rfl⟩
        have HX := Lib.hid hX
        clear r1 r2 r3 r4 r5 r6 hok hok2 hag1 hag2 hs2 hnow hnl hX
        go_wp2_with fail
        refine (Bytes_any p S' s2 _ H6.out.1).mono ?_
        rintro e w7 ⟨bv, rfl, q1, q2, q3⟩
        have k7 := conv_row q1
        rw [← HX.out] at k7
        have H67 := Lib.hid q2
        clear q1 q2 q3
        go_wp2_with fail
        refine (Collect_ok p _ _ _ _ now S' s2 T _ rs _ (H6.out.1.keep H67.out (fun _ _ h => h)) (by rw [HAg.out.2.2.2]; exact H67.out.row H6.out.2.2.1 (fun _ _ h => h)) HAg.out.1 (H6.out.2.1.keep H67.out (fun _ _ h => h)) H6.out.2.2.2.2.1 H6.out.2.2.2.1 (by rw [HAg.out.2.2.2]; omega)).mono ?_
        rintro e w8 ⟨av, rfl, r1, r2, S'', r3, r4, r5, r6⟩
        rw [HAg.out.2.2.1] at r1
        obtain ⟨s3, hs3⟩ : ∃ s3, s3 = collectS s2 T now := ⟨_, rfl⟩
        have hs3u : s3.used = s2.used := by rw [hs3]; exact HAg.out.2.1
        rw [← hs3] at r3
        have H8 := Lib.hid (show IsArena w8 p S'' s3 ∧ TabIs w8 (.slice at_ lt ct) T D rs ∧ w8.ownsRow 0 2 1 (.slice au nr cu) nr (now.map (Value.int .i64)) ∧ w8.ownsRow 0 2 1 av nr (now.map (Value.int .i64)) ∧ (∀ k, D k → ¬ S'' k) ∧ Fr (fun _ => False) w w8 ∧ (∀ k, S'' k → w.heap.size ≤ k) ∧ s3.used = s2.used from by
          have hD6 := H6.out.2.2.2.2.2.1
          have hs67 := H67.out.size
          have hf := H6.out.2.2.2.2.2.2.1.trans H67.out (fun _ h => h) (fun _ _ h => h)
          have hfs := hf.size
          refine ⟨r3, (H6.out.2.1.keep H67.out (fun _ _ h => h)).keep r4 H6.out.2.2.2.2.1, r4.row (H67.out.row H6.out.2.2.1 (fun _ _ h => h)) H6.out.2.2.2.1, by rw [← HAg.out.2.2.2]; exact r1, fun k hk e => ?_, hf.trans r4 (fun _ h => h) (fun i hi e => by have := H6.out.2.2.2.2.2.2.2 i e; omega), fun k hk => ?_, hs3u⟩
          · rcases r5 k e with h | h
            · exact H6.out.2.2.2.2.1 k hk h
            · have := hD6 k hk; omega
          · rcases r5 k hk with h | h
            · exact H6.out.2.2.2.2.2.2.2 k h
            · omega)
        obtain ⟨a8, c8, rfl⟩ := row_form H8.out.2.2.2.1
        clear r1 r2 r3 r4 r5 r6 hs3 hs3u k7
        go_wp2_with fail
        refine (SameWords_any _ _ now now _ (by rw [HAg.out.2.2.2]; exact H8.out.2.2.2.1) (by rw [HAg.out.2.2.2]; exact H8.out.2.2.1)).mono ?_
        rw [sameW_self]
        rintro e w9 ⟨rfl, nd, hw9⟩
        have H9 := Lib.hid (show Fr (fun _ => False) w8 w9 from by rw [hw9]; exact Fr.drewN _ w8 nd)
        clear hw9
        go_wp2_with fail
        refine (Bytes_any p S'' s3 _ (H8.out.1.keep H9.out (fun _ _ h => h))).mono ?_
        rintro e w10 ⟨bv2, rfl, q1, q2, q3⟩
        have k10 := conv_row q1
        rw [H8.out.2.2.2.2.2.2.2, ← HX.out] at k10
        have H10 := Lib.hid (H9.out.trans q2 (fun _ h => h) (fun _ _ h => h))
        clear q1 q2 q3
        go_wp2_with fail
        refine (Collect_ok p _ _ _ _ [] S'' s3 T _ rs _ (H8.out.1.keep H10.out (fun _ _ h => h)) (World.ownsRow_nil _ _ _ _) (fun a ha => (by cases ha)) (H8.out.2.1.keep H10.out (fun _ _ h => h)) H8.out.2.2.2.2.1 (by simp [Value.ownBlock]) (by simp)).mono ?_
        rintro e w11 ⟨nv, rfl, r1, r2, S3, r3, r4, r5, r6⟩
        obtain ⟨s4, hs4⟩ : ∃ s4, s4 = collectS s3 T [] := ⟨_, rfl⟩
        have hs4u : s4.used = [] := by rw [hs4]; exact (collect_none s3 T).1
        rw [← hs4] at r3
        obtain ⟨a11, c11, rfl⟩ := row_form r1
        have H11 := Lib.hid (show IsArena w11 p S3 s4 ∧ s4.used = [] ∧ Fr (fun _ => False) w w11 from
          ⟨r3, hs4u, (H8.out.2.2.2.2.2.1.trans H10.out (fun _ h => h) (fun _ _ h => h)).trans r4 (fun _ h => h) (fun i hi e => by have := H8.out.2.2.2.2.2.2.1 i e; omega)⟩)
        clear r1 r2 r3 r4 r5 r6 hs4 hs4u k10
        simp only [List.length_nil]
        go_wp2_with fail
        refine (Used_any p S3 s4 _ H11.out.1).mono ?_
        rw [H11.out.2.1]
        rintro e w12 ⟨rfl, rfl⟩
        go_wp2_with fail
        refine (All_any p S3 s4 _ H11.out.1).mono ?_
        rw [H11.out.2.1]
        rintro e w13 ⟨lv, rfl, q1, q2, q3⟩
        simp only [addrs, List.map_nil, List.length_nil] at q1
        obtain ⟨al2, cl2, rfl⟩ := row_form q1
        have HF := Lib.hid (H11.out.2.2.trans q2 (fun _ h => h) (fun _ _ h => h))
        clear q1 q2 q3
        go_wp2
        go_ret
        exact ⟨rfl, HF.out⟩
      · go_wp2_with fail
        refine (Collect_bad p _ _ _ _ rts S s _ H5.out.1 (by rw [← Hnr.out]; exact H5.out.2.2.1) hok).mono ?_
        rintro e w6 ⟨rfl, rfl⟩
        go_wp2
        go_ret
        exact ⟨rfl, H5.out.2.2.2.2.1⟩
end Go.Proofs.Ytniifefmjdjebaa
