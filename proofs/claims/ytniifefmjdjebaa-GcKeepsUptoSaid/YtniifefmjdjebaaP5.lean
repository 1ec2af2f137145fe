/- Walk: GcKeeps. -/
import Derived.Test.YtniifefmjdjebaaP4
import Derived.Test.YtniifefmjdjebaaP2
namespace Go.Proofs.Ytniifefmjdjebaa
open Go.RowKit
set_option linter.unusedVariables false
set_option linter.unusedSimpArgs false
set_option maxRecDepth 100000 in
set_option maxHeartbeats 8000000 in
theorem GcKeeps_any (a0 : Option Addr) (n0 c0 : Nat) (o : Nat → ObjD) (a1 : Option Addr) (n1 c1 : Nat) (A : Nat → Option Addr) (L C : Nat → Nat) (z : Nat → Nat → Int) (a2 : Option Addr) (n2 c2 : Nat) (y2 : Nat → Int) (w : World)
    (h0 : ObjsIn w a0 n0 o) (h1 : TabIn w a1 n1 A L C z) (h2 : IntsIn w a2 n2 y2) :
    Calls Try.prog 18 #[.slice a0 n0 c0, .slice a1 n1 c1, .slice a2 n2 c2] w fun e w' => e = .returned (.bool true) ∧ Fr (fun _ => False) w w' := by
  have HI := Lib.hid (And.intro h0 (And.intro h1 h2)); clear h0 h1 h2
  go_enter Try.func18, Try.ntmps18
  go_wp2_with fail
  refine (gcKnown_any _).mono ?_
  rintro e w1 ⟨rfl, hf1⟩
  have HF1 := Lib.hid hf1; clear hf1
  go_wp2_with fail
  refine (made16_any a0 n0 c0 o _ (HI.out.1.keep HF1.out)).mono ?_
  rintro e w2 ⟨p, S, q, R, rfl, htwo⟩
  have HT0 := Lib.hid htwo
  clear htwo
  go_wp2_with fail
  refine (made16_any a0 n0 c0 o _ (HI.out.1.keep (HF1.out.trans HT0.out.fr (fun _ h => h) (fun _ _ h => h)))).mono ?_
  rintro e w3 ⟨p2, S2, q2, R2, rfl, htwo⟩
  obtain ⟨s, hs⟩ : ∃ s, s = madeX n0 o := ⟨_, rfl⟩
  rw [← hs] at htwo HT0
  have HT := Lib.hid (show Two w1 w3 p S s q R s ∧ IsArena w3 p2 S2 s ∧ (∀ k, S2 k → w2.heap.size ≤ k) ∧ (∀ k, S k → k < w2.heap.size) from
    ⟨HT0.out.kept htwo.fr, htwo.a, htwo.newA, fun k hk => HT0.out.a.lt hk⟩)
  clear htwo hs HT0
  go_wp2_with fail
  refine (table_any a1 n1 c1 A L C z _ (HI.out.2.1.keep (HF1.out.trans HT.out.1.fr (fun _ h => h) (fun _ _ h => h)))).mono ?_
  rintro e w4 ⟨tv, rs, rfl, q1, q2'⟩
  obtain ⟨T, hT⟩ : ∃ T, T = tabT n1 L z := ⟨_, rfl⟩
  rw [← hT] at q1
  obtain ⟨at_, ct, rfl⟩ := row_form q1.row
  have H3 := Lib.hid (And.intro q1 q2')
  clear q1 q2' hT
  obtain ⟨lt, hlt⟩ : ∃ lt, lt = T.length := ⟨_, rfl⟩
  rw [← hlt] at H3 ⊢
  clear hlt
  go_wp2_with fail
  refine (roots_any q R s a2 n2 c2 y2 _ (HT.out.1.r.keep H3.out.2 (fun _ _ h => h)) HT.out.1.a.good (HI.out.2.2.keep ((HF1.out.trans HT.out.1.fr (fun _ h => h) (fun _ _ h => h)).trans H3.out.2 (fun _ h => h) (fun _ _ h => h)))).mono ?_
  rintro e w5 ⟨rv, rfl, q1, q2', q3⟩
  have hI4 := rootsOf_I64 HT.out.1.a.good.small HI.out.2.2.fit
  have hl4 : (rootsOf (addrs 0 s.used) n2 y2).length ≤ 20 := by unfold rootsOf; rw [rootsK_length]; omega
  obtain ⟨rts, hrts⟩ : ∃ rts, rts = rootsOf (addrs 0 s.used) n2 y2 := ⟨_, rfl⟩
  rw [← hrts] at q1 hl4 hI4
  rw [List.length_map] at q1
  obtain ⟨ar, cr, rfl⟩ := row_form q1
  obtain ⟨nr, hnr⟩ : ∃ nr, nr = rts.length := ⟨_, rfl⟩
  have Hnr := Lib.hid hnr
  have HB := Lib.hid (show IsArena w5 p S s ∧ IsArena w5 p2 S2 s ∧ TabIs w5 (.slice at_ lt ct) T (fun k => w3.heap.size ≤ k) rs ∧ w5.ownsRow 0 2 1 (.slice ar rts.length cr) rts.length (rts.map (Value.int .i64)) ∧ (∀ k, S k → k < w3.heap.size) ∧ (∀ k, (Value.slice ar rts.length cr).ownBlock = some k → ¬ S k) ∧ (∀ k, S2 k → ¬ S k) ∧ Fr (fun _ => False) w w5 ∧ (∀ x ∈ rts, I64 x) ∧ (∀ k, S k → w.heap.size ≤ k) from by
    have f35 := H3.out.2.trans q2' (fun _ h => h) (fun _ _ h => h)
    refine ⟨HT.out.1.a.keep f35 (fun _ _ h => h), HT.out.2.1.keep f35 (fun _ _ h => h), H3.out.1.keep q2' (fun _ _ h => h), q1, fun k hk => HT.out.1.a.lt hk, fun k hk e => ?_, fun k hk e => ?_, (HF1.out.trans HT.out.1.fr (fun _ h => h) (fun _ _ h => h)).trans f35 (fun _ h => h) (fun _ _ h => h), hI4, fun k hk => ?_⟩
    · have h7 := q3 k hk; have h8 := HT.out.1.a.lt e; have h9 := H3.out.2.size; omega
    · have h7 := HT.out.2.2.1 k hk; have h8 := HT.out.2.2.2 k e; omega
    · have h7 := HT.out.1.newA k hk; have h8 := HF1.out.size; omega)
  rw [← hnr] at HB hl4 ⊢
  clear q1 q2' q3 hrts hnr hI4
  go_wp2_with fail
  refine (Reach_any p _ _ _ _ rts S s T _ rs _ HB.out.1 HB.out.2.2.1 (by rw [← Hnr.out]; exact HB.out.2.2.2.1)).mono ?_
  rintro e w6 ⟨pv, rfl, q1, q2', q3⟩
  obtain ⟨P, hP⟩ : ∃ P, P = reach s T rts := ⟨_, rfl⟩
  have HP := Lib.hid hP
  rw [← hP, List.length_map] at q1
  obtain ⟨ap, cp, rfl⟩ := row_form q1
  obtain ⟨np, hnp⟩ : ∃ n, n = P.length := ⟨_, rfl⟩
  have Hnp := Lib.hid hnp
  rw [← hnp] at q1 ⊢
  have H6 := Lib.hid (show Fr (fun _ => False) w5 w6 ∧ w6.ownsRow 0 2 1 (.slice ap np cp) np (P.map (Value.int .i64)) ∧ ∀ k, (Value.slice ap np cp).ownBlock = some k → ¬ S k from
    ⟨q2', q1, fun k hk e => by have h7 := q3 k (by rw [← hnp]; exact hk); have h8 := HB.out.1.lt e; omega⟩)
  clear q1 q2' q3 hP hnp
  go_wp2_with fail
  refine (Live_any p _ _ _ _ rts S s T _ rs _ (HB.out.1.keep H6.out.1 (fun _ _ h => h)) (HB.out.2.2.1.keep H6.out.1 (fun _ _ h => h)) (by rw [← Hnr.out]; exact H6.out.1.row HB.out.2.2.2.1 (fun _ _ h => h))).mono ?_
  rintro e w7 ⟨rfl, q1⟩
  have H7 := Lib.hid (show Fr (fun _ => False) w5 w7 ∧ w7.ownsRow 0 2 1 (.slice ap np cp) np (P.map (Value.int .i64)) from ⟨H6.out.1.trans q1 (fun _ h => h) (fun _ _ h => h), q1.row H6.out.2.1 (fun _ _ h => h)⟩)
  obtain ⟨nl, hnl⟩ : ∃ nl, nl = tot (objs s (reach s T rts)) := ⟨_, rfl⟩
  have Hnl := Lib.hid hnl
  rw [← hnl]
  clear q1 hnl
  by_cases hok : rootsOk s rts
  · go_wp2_with fail
    refine (Collect_ok p _ _ _ _ rts S s T _ rs _ (HB.out.1.keep H7.out.1 (fun _ _ h => h)) (by rw [← Hnr.out]; exact H7.out.1.row HB.out.2.2.2.1 (fun _ _ h => h)) hok (HB.out.2.2.1.keep H7.out.1 (fun _ _ h => h)) (fun k hk e => by have := HB.out.2.2.2.2.1 k e; omega) HB.out.2.2.2.2.2.1 (by rw [← Hnr.out]; omega)).mono ?_
    rintro e w8 ⟨uv, rfl, r1, r2, S', r3, r4, r5, r6⟩
    obtain ⟨s2, hs2⟩ : ∃ s2, s2 = collectS s T rts := ⟨_, rfl⟩
    have Hs2 := Lib.hid hs2
    rw [← hs2] at r3
    rw [← Hnr.out] at r1
    obtain ⟨au, cu, rfl⟩ := row_form r1
    have H8 := Lib.hid (show IsArena w8 p S' s2 ∧ IsArena w8 p2 S2 s ∧ TabIs w8 (.slice at_ lt ct) T (fun k => w3.heap.size ≤ k) rs ∧ w8.ownsRow 0 2 1 (.slice ar nr cr) nr (rts.map (Value.int .i64)) ∧ w8.ownsRow 0 2 1 (.slice ap np cp) np (P.map (Value.int .i64)) ∧ w8.ownsRow 0 2 1 (.slice au nr cu) nr ((collectR s T rts).map (Value.int .i64)) ∧ Fr (fun _ => False) w w8 from
      ⟨r3, (HB.out.2.1.keep H7.out.1 (fun _ _ h => h)).keep r4 HB.out.2.2.2.2.2.2.1, (HB.out.2.2.1.keep H7.out.1 (fun _ _ h => h)).keep r4 (fun k hk e => by have := HB.out.2.2.2.2.1 k e; omega), r4.row (H7.out.1.row HB.out.2.2.2.1 (fun _ _ h => h)) HB.out.2.2.2.2.2.1, r4.row H7.out.2 H6.out.2.2, r1,
        (HB.out.2.2.2.2.2.2.2.1.trans H7.out.1 (fun _ h => h) (fun _ _ h => h)).trans r4 (fun _ h => h) (fun i hi e => by have := HB.out.2.2.2.2.2.2.2.2.2 i e; omega)⟩)
    have HOk := Lib.hid hok
    clear r1 r2 r3 r4 r5 r6 hs2 hok
    go_wp2_with fail
    refine (All_any p S' s2 _ H8.out.1).mono ?_
    rintro e w9 ⟨lv, rfl, q1, q2', q3⟩
    obtain ⟨al, hal⟩ : ∃ al, al = addrs 0 s2.used := ⟨_, rfl⟩
    have hall : al.length = np := by rw [hal, addrs_length, Hs2.out, collect_len, Hnp.out, HP.out]
    rw [← hal, List.length_map, hall] at q1
    obtain ⟨aa, ca, rfl⟩ := row_form q1
    have HAl := Lib.hid (And.intro hal hall)
    have hPo : ∀ a ∈ P, isOb s a = true := fun a ha => (reach_good s T rts).2 a (HP.out ▸ ha)
    have HC := Lib.hid (fun (W : World) (hW : Fr (fun _ => False) w9 W) => (show IsArena W p S' s2 ∧ IsArena W p2 S2 s ∧ TabIs W (.slice at_ lt ct) T (fun k => w3.heap.size ≤ k) rs ∧ W.ownsRow 0 2 1 (.slice ar nr cr) nr (rts.map (Value.int .i64)) ∧ W.ownsRow 0 2 1 (.slice ap np cp) np (P.map (Value.int .i64)) ∧ W.ownsRow 0 2 1 (.slice au nr cu) nr ((collectR s T rts).map (Value.int .i64)) ∧ W.ownsRow 0 2 1 (.slice aa np ca) np (al.map (Value.int .i64)) ∧ IntsIn W ap np (fun j => P[j]?.getD 0) ∧ IntsIn W aa np (fun j => al[j]?.getD 0) from by
      have f := q2'.trans hW (fun _ h => h) (fun _ _ h => h)
      have hp := f.row H8.out.2.2.2.2.1 (fun _ _ h => h)
      have ha := hW.row q1 (fun _ _ h => h)
      refine ⟨H8.out.1.keep f (fun _ _ h => h), H8.out.2.1.keep f (fun _ _ h => h), H8.out.2.2.1.keep f (fun _ _ h => h), f.row H8.out.2.2.2.1 (fun _ _ h => h), hp, f.row H8.out.2.2.2.2.2.1 (fun _ _ h => h), ha, row_ints hp (fun a ha => isOb_I64 HB.out.1.good (hPo a ha)), row_ints ha (fun a ha => ?_)⟩
      have h7 := addrs_I64 H8.out.1.good.small a (hal ▸ ha)
      unfold I64; omega))
    have HF9 := Lib.hid (show Fr (fun _ => False) w w9 from H8.out.2.2.2.2.2.2.trans q2' (fun _ h => h) (fun _ _ h => h))
    have H9 := Lib.hid (HC.out w9 (Fr.refl _ _))
    have HPo := Lib.hid hPo
    have htt : tot s2.used = nl := by rw [Hs2.out, collect_tot, Hnl.out]
    have HTt := Lib.hid htt
    have hnpm := row_maxLen q1
    clear q1 q2' q3 hal hall hPo htt
    go_wp2_with fail
    refine (Used_any p S' s2 _ H9.out.1).mono ?_
    rw [HTt.out]
    rintro e w10 ⟨rfl, rfl⟩
    go_wp2_with fail
    go_loopw [17] (fun x17 wr => ∃ i : Nat, i ≤ np ∧ x17 = .int .i64 i ∧ Fr (fun _ => False) w10 wr) (fun x17 _ => (np - intOf x17).toNat)
    case atStart => exact ⟨0, by omega, rfl, Fr.refl _ _⟩
    case round =>
      obtain ⟨i, hi, rfl, hfr⟩ := hrel
      have HFr := Lib.hid hfr; clear hfr
      by_cases hil : i < np
      · have hcr := HC.out _ HFr.out
        obtain ⟨g, d, _, e1, _, _, _⟩ := row_addr hcr.2.2.2.2.1 (by omega)
        simp only [Value.slice.injEq, true_and] at e1
        obtain ⟨rfl, rfl⟩ := e1
        have hcell := row_int hcr.2.2.2.2.1 hil
        obtain ⟨ga, da, _, ea, _, _, _⟩ := row_addr hcr.2.2.2.2.2.2.1 (by omega)
        simp only [Value.slice.injEq, true_and] at ea
        obtain ⟨rfl, rfl⟩ := ea
        have hcela := row_int hcr.2.2.2.2.2.2.1 hil
        obtain ⟨y, hy⟩ : ∃ y, y = P[i]?.getD 0 := ⟨_, rfl⟩
        rw [← hy] at hcell
        have hyl : P[i]? = some y := by
          have hkL : i < P.length := by rw [← Hnp.out]; exact hil
          rw [hy, List.getElem?_eq_getElem hkL]; rfl
        have hyR : (reach s T rts)[i]? = some y := by rw [← HP.out]; exact hyl
        obtain ⟨ad, had⟩ : ∃ ad, ad = al[i]?.getD 0 := ⟨_, rfl⟩
        rw [← had] at hcela
        have hob : isOb s y = true := HPo.out y (List.mem_of_getElem? hyl)
        have hfx := isOb_some hob
        have hada : ad = adr (objs s (reach s T rts)) i := by
          rw [had, HAl.out.1, Hs2.out]
          exact collect_addrs_at s T rts (by rw [← HP.out, ← Hnp.out]; exact hil)
        obtain ⟨x, hx⟩ : ∃ x, x = obAt s y := ⟨_, rfl⟩
        rw [← hx] at hfx
        obtain ⟨fx, hfxe⟩ : ∃ fx, fx = fixOb T (wentTo s T rts) x := ⟨_, rfl⟩
        have hff : findOb 0 s2.used ad = some fx := by rw [Hs2.out, hada, hfxe, hx]; exact collect_find s T rts hyR
        have hkf : fx.kind = x.kind := by rw [hfxe]; rfl
        have hlf : fx.vs.length = x.vs.length := by rw [hfxe]; exact fixVs_length _ _ _
        have HSl := Lib.hid (show ∀ j : Nat, j < x.vs.length → getV (some fx) j = if (j : Int) ∈ goodG T x ∧ isOb s (getV (some x) j) = true then goesTo np (fun j => P[j]?.getD 0) (fun j => al[j]?.getD 0) (getV (some x) j) else getV (some x) j from by
          intro j hj
          have h7 := keep_slot s T rts (a := y) (List.mem_of_getElem? hyR) (j := j) (by rw [← hx]; exact hj)
          rw [← hx, ← hfxe, ← HP.out, ← Hnp.out, ← Hs2.out, ← HAl.out.1] at h7
          exact h7)
        have HX := Lib.hid (And.intro hfx (And.intro hff (And.intro hkf (And.intro hlf (And.intro hyl hx)))))
        have hvl : x.vs.length ≤ 65536 := by rw [hx]; exact (obAt_ok HB.out.1.good hob).2.1
        obtain ⟨kx, hkx⟩ : ∃ kx, kx = x.kind := ⟨_, rfl⟩
        have Hkx := Lib.hid hkx
        obtain ⟨xn, hxn⟩ : ∃ xn, xn = x.vs.length := ⟨_, rfl⟩
        have Hxn := Lib.hid hxn
        rw [← hxn] at hvl
        have HAd := Lib.hid (And.intro hy had)
        clear hcr hy hyl hyR had hob hfx hada hx hfxe hff hkf hlf hkx hxn
        have HCr := Lib.hid (HC.out _ HFr.out)
        go_wp2_with fail
        refine (Kind_any p2 y S2 s _ HCr.out.2.1).mono ?_
        rw [HX.out.1, show kindOf (some x) = x.kind from rfl, show errI (some x) = 0 from rfl, ← Hkx.out]
        rintro e w11 ⟨rfl, rfl⟩
        go_wp2_with fail
        refine (Slots_any p2 y S2 s _ HCr.out.2.1).mono ?_
        rw [HX.out.1, show slotsOf (some x) = (x.vs.length : Int) from rfl, show errI (some x) = 0 from rfl, ← Hxn.out]
        rintro e w12 ⟨rfl, rfl⟩
        go_wp2_with fail
        refine (Kind_any p ad S' s2 _ HCr.out.1).mono ?_
        rw [HX.out.2.1, show kindOf (some fx) = fx.kind from rfl, show errI (some fx) = 0 from rfl, HX.out.2.2.1, ← Hkx.out]
        rintro e w13 ⟨rfl, rfl⟩
        go_wp2_with fail
        refine (Slots_any p ad S' s2 _ HCr.out.1).mono ?_
        rw [HX.out.2.1, show slotsOf (some fx) = (fx.vs.length : Int) from rfl, show errI (some fx) = 0 from rfl, HX.out.2.2.2.1, ← Hxn.out]
        rintro e w14 ⟨rfl, rfl⟩
        go_wp2_with fail
        refine (good_any p2 _ y S2 s x T _ rs _ HCr.out.2.1 HX.out.1 HCr.out.2.2.1).mono ?_
        rintro e w15 ⟨gv, rfl, q1, q2', q3⟩
        obtain ⟨G, hG⟩ : ∃ G, G = goodG T x := ⟨_, rfl⟩
        have HGd := Lib.hid hG
        rw [← hG, List.length_map] at q1
        obtain ⟨ag, cg, rfl⟩ := row_form q1
        have hG64 : ∀ n ∈ G, I64 n := fun n hn => by
          rw [hG] at hn
          have h7 := of_decide_eq_true (mem_goodG.1 hn).2
          rw [← Hxn.out] at h7
          unfold I64; omega
        have H15 := Lib.hid (And.intro (HFr.out.trans q2' (fun _ h => h) (fun _ _ h => h)) (row_ints q1 hG64))
        obtain ⟨ng, hng⟩ : ∃ n, n = G.length := ⟨_, rfl⟩
        have Hng := Lib.hid hng
        rw [← hng] at H15 ⊢
        clear q1 q2' q3 hG hng hG64
        go_wp2_with fail
        go_loopw [27] (fun x27 wz => ∃ j : Nat, j ≤ xn ∧ x27 = .int .i64 j ∧ Fr (fun _ => False) w15 wz) (fun x27 _ => (xn - intOf x27).toNat)
        case atStart => exact ⟨0, by omega, rfl, Fr.refl _ _⟩
        case round =>
          obtain ⟨j, hj, rfl, hfr⟩ := hrel
          have HFj := Lib.hid hfr; clear hfr
          have HF10 := Lib.hid (H15.out.1.trans HFj.out (fun _ h => h) (fun _ _ h => h))
          by_cases hjl : j < xn
          · have hcr := HC.out _ HF10.out
            have hcell := row_int hcr.2.2.2.2.1 hil
            rw [← HAd.out.1] at hcell
            have hcela := row_int hcr.2.2.2.2.2.2.1 hil
            rw [← HAd.out.2] at hcela
            have HCr := Lib.hid (fun nd => HC.out (wr.drewN nd) (HF10.out.trans (Fr.drewN _ wr nd) (fun _ h => h) (fun _ _ h => h)))
            clear hcr
            obtain ⟨v, hv⟩ : ∃ v, v = getV (some x) j := ⟨_, rfl⟩
            obtain ⟨u, hu⟩ : ∃ u, u = getV (some fx) j := ⟨_, rfl⟩
            obtain ⟨ge, hge⟩ : ∃ ge, ge = slotE (some x) j := ⟨_, rfl⟩
            obtain ⟨gf, hgf⟩ : ∃ gf, gf = slotE (some fx) j := ⟨_, rfl⟩
            have HU := Lib.hid (show u = if (j : Int) ∈ G ∧ isOb s v = true then goesTo np (fun j => P[j]?.getD 0) (fun j => al[j]?.getD 0) v else v from by
              have h7 := HSl.out j (by rw [← Hxn.out]; exact hjl)
              rw [← hv, ← hu, ← HGd.out] at h7
              exact h7)
            have HV := Lib.hid (And.intro hv (And.intro hu (And.intro hge hgf)))
            clear hv hu hge hgf
            go_wp2_with fail
            refine (Get_any p2 y j S2 s _ (HCr.out 0).2.1).mono ?_
            rw [HX.out.1, ← HV.out.1, ← HV.out.2.2.1]
            rintro e w16 ⟨rfl, nd, hw16⟩
            have HF16 := Lib.hid (show Fr (fun _ => False) w15 w16 from by rw [hw16]; exact HFj.out.trans (Fr.drewN _ wr nd) (fun _ h => h) (fun _ _ h => h))
            have hcr := HC.out _ (H15.out.1.trans HF16.out (fun _ h => h) (fun _ _ h => h))
            have hcela := row_int hcr.2.2.2.2.2.2.1 hil
            rw [← HAd.out.2] at hcela
            have HC16 := Lib.hid hcr.1
            clear hw16 hcr hcell
            go_wp2_with fail
            refine (Get_any p ad j S' s2 _ HC16.out).mono ?_
            rw [HX.out.2.1, ← HV.out.2.1, ← HV.out.2.2.2]
            rintro e w17 ⟨rfl, nd, hw17⟩
            have HF17 := Lib.hid (show Fr (fun _ => False) w15 w17 from by rw [hw17]; exact HF16.out.trans (Fr.drewN _ w16 nd) (fun _ h => h) (fun _ _ h => h))
            have HC17 := Lib.hid (HC.out _ (H15.out.1.trans HF17.out (fun _ h => h) (fun _ _ h => h)))
            have HG17 := Lib.hid (H15.out.2.keep HF17.out)
            have HMv := Lib.hid (show (standsIn ng (fun j => G[j]?.getD 0) (j : Int)).isSome = decide ((j : Int) ∈ G) from by rw [Hng.out]; exact standsIn_mem G j)
            clear hw17 hcela
            go_wp2_with fail
            refine (moved_any _ _ _ _ (j : Int) _ HG17.out).mono ?_
            rw [HMv.out]
            rintro e w18 ⟨rfl, rfl⟩
            by_cases hjG : (j : Int) ∈ G
            · rw [decide_eq_true hjG]
              go_wp2_with fail
              refine (whole_any p2 v S2 s _ HC17.out.2.1).mono ?_
              rintro e w19 ⟨rfl, rfl⟩
              by_cases hob : isOb s v = true
              · have HUe := Lib.hid (show goesTo np (fun j => P[j]?.getD 0) (fun j => al[j]?.getD 0) v = u from by rw [HU.out, if_pos ⟨hjG, hob⟩])
                rw [hob]
                clear hob hjG
                go_wp2_with fail
                refine (to_any _ _ _ _ _ _ _ _ v _ HC17.out.2.2.2.2.2.2.2.1 HC17.out.2.2.2.2.2.2.2.2 (Nat.le_refl _)).mono ?_
                rw [HUe.out]
                rintro e w20 ⟨rfl, rfl⟩
                go_wp2
                go_roundw
                case rel => exact ⟨j + 1, by omega, by go_num, HF17.out⟩
                case measure => simp [intOf]; omega
              · have hob2 : isOb s v = false := by simpa using hob
                have HUe := Lib.hid (show u = v from by rw [HU.out, if_neg (fun h => hob h.2)])
                rw [hob2]
                clear hob hob2 hjG
                obtain rfl := HUe.out
                go_wp2
                go_roundw
                case rel => exact ⟨j + 1, by omega, by go_num, HF17.out⟩
                case measure => simp [intOf]; omega
            · have HUe := Lib.hid (show u = v from by rw [HU.out, if_neg (fun h => hjG h.1)])
              rw [decide_eq_false hjG]
              clear hjG
              obtain rfl := HUe.out
              go_wp2
              go_roundw
              case rel => exact ⟨j + 1, by omega, by go_num, HF17.out⟩
              case measure => simp [intOf]; omega
          · go_wp2
            go_roundw
            case rel => exact ⟨i + 1, by omega, by go_num, HF10.out⟩
            case measure => simp [intOf]; omega
      · have HFa := Lib.hid HFr.out
        have HRt := Lib.hid (fun (j : Nat) (hj : j < nr) => show (collectR s T rts)[j]?.getD 0 = if rts[j]?.getD 0 = 0 then 0 else goesTo np (fun j => P[j]?.getD 0) (fun j => al[j]?.getD 0) (rts[j]?.getD 0) from by
          have h7 := keep_root s T rts HOk.out (j := j) (by rw [← Hnr.out]; exact hj)
          rw [← HP.out, ← Hnp.out, ← Hs2.out, ← HAl.out.1] at h7
          exact h7)
        go_wp2_with fail
        go_loopw [32] (fun x32 wz => ∃ j : Nat, j ≤ nr ∧ x32 = .int .i64 j ∧ Fr (fun _ => False) w10 wz) (fun x32 _ => (nr - intOf x32).toNat)
        case atStart => exact ⟨0, by omega, rfl, HFa.out⟩
        case round =>
          clear HFa HFr
          obtain ⟨j, hj, rfl, hfr⟩ := hrel
          have HFr := Lib.hid hfr; clear hfr
          by_cases hjl : j < nr
          · have hcr := HC.out _ HFr.out
            obtain ⟨g, d, _, e1, _, _, _⟩ := row_addr hcr.2.2.2.1 (by omega)
            simp only [Value.slice.injEq, true_and] at e1
            obtain ⟨rfl, rfl⟩ := e1
            have hcell := row_int hcr.2.2.2.1 hjl
            obtain ⟨gu, du, _, eu, _, _, _⟩ := row_addr hcr.2.2.2.2.2.1 (by omega)
            simp only [Value.slice.injEq, true_and] at eu
            obtain ⟨rfl, rfl⟩ := eu
            have hcelu := row_int hcr.2.2.2.2.2.1 hjl
            have HRj := Lib.hid (HRt.out j hjl)
            obtain ⟨y, hy⟩ : ∃ y, y = rts[j]?.getD 0 := ⟨_, rfl⟩
            obtain ⟨u, hu⟩ : ∃ u, u = (collectR s T rts)[j]?.getD 0 := ⟨_, rfl⟩
            rw [← hy] at hcell HRj
            rw [← hu] at hcelu HRj
            have HCr := Lib.hid (fun nd => HC.out (wr.drewN nd) (HFr.out.trans (Fr.drewN _ wr nd) (fun _ h => h) (fun _ _ h => h)))
            have HFd := Lib.hid (fun nd => HFr.out.trans (Fr.drewN _ wr nd) (fun _ h => h) (fun _ _ h => h))
            clear hcr hy hu
            by_cases hy0 : y = 0
            · obtain rfl : u = 0 := by rw [HRj.out, if_pos hy0]
              subst hy0
              go_wp2_with fail
              go_quiet (fail)
              go_wp2
              go_roundw
              case rel => exact ⟨j + 1, by omega, by go_num, HFd.out _⟩
              case measure => simp [intOf]; omega
            · have HW53 := Lib.hid (fun n => (show Calls Try.prog 53 #[.slice ap np cp, .slice aa np ca, .int .i64 y] (wr.drewN n) fun e w' => e = .returned (.int .i64 u) ∧ w' = wr.drewN n from by
                have h7 := to_any ap aa np cp np ca _ _ y _ (HCr.out n).2.2.2.2.2.2.2.1 (HCr.out n).2.2.2.2.2.2.2.2 (Nat.le_refl _)
                have h8 := HRj.out
                rw [if_neg hy0] at h8
                rw [← h8] at h7; exact h7))
              have hb : (y == 0) = false := by simpa using hy0
              have hb2 : (y != 0) = true := by simpa using hy0
              go_wp2_with fail
              go_quiet ((first | (go_at_call 53; exact Calls.quiet_of_same (HW53.out _))))
              go_wp2
              go_roundw
              case rel => exact ⟨j + 1, by omega, by go_num, HFd.out _⟩
              case measure => simp [intOf]; omega
          · go_wp2
            go_ret
            exact ⟨rfl, HF9.out.trans HFr.out (fun _ h => h) (fun _ _ h => h)⟩
  · have HOk := Lib.hid hok
    go_wp2_with fail
    refine (Collect_bad p _ _ _ _ rts S s _ (HB.out.1.keep H7.out.1 (fun _ _ h => h)) (by rw [← Hnr.out]; exact H7.out.1.row HB.out.2.2.2.1 (fun _ _ h => h)) hok).mono ?_
    rintro e w8 ⟨rfl, rfl⟩
    obtain ⟨X, hX⟩ : ∃ X, X = strOfNums (encs s.used) := ⟨_, rfl⟩
    have HX := Lib.hid hX
    have HW := Lib.hid (fun (W : World) (hW : Fr (fun _ => False) w8 W) => (show IsArena W p S s ∧ IsArena W p2 S2 s from ⟨(HB.out.1.keep H7.out.1 (fun _ _ h => h)).keep hW (fun _ _ h => h), (HB.out.2.1.keep H7.out.1 (fun _ _ h => h)).keep hW (fun _ _ h => h)⟩))
    have H0 := Lib.hid (Fr.drewN (fun _ => False) w8 1)
    have HF8 := Lib.hid (show Fr (fun _ => False) w w8 from HB.out.2.2.2.2.2.2.2.1.trans H7.out.1 (fun _ h => h) (fun _ _ h => h))
    clear hX hok
    go_wp2_with fail
    refine wp_region_any (by kernel_rfl) ?_
    try (change wpAny _ _ _ _ _ _ _ (World.drew _))
    refine wpAny_take (i := 0) (v := ?_) rfl (by kernel_rfl) (by kernel_rfl) (by kernel_rfl) (fun _ _ _ h => h) (Or.inl ⟨by rfl, ?_⟩) ?_
    rotate_left 1
    · (intro w; go_simp; try with_reducible rfl)
    simp only [List.getElem_toArray, List.getElem_cons_succ, List.getElem_cons_zero, Act.put, List.setIfInBounds_toArray, List.set_cons_zero, List.set_cons_succ]
    refine wpAny_take (i := 1) (v := ?_) rfl (by kernel_rfl) (by kernel_rfl) (by kernel_rfl) (fun _ _ _ h => h) (Or.inl ⟨by rfl, ?_⟩) ?_
    rotate_left 1
    · (intro w; go_simp; try with_reducible rfl)
    simp only [List.getElem_toArray, List.getElem_cons_succ, List.getElem_cons_zero, Act.put, List.setIfInBounds_toArray, List.set_cons_zero, List.set_cons_succ]
    refine wpAny_take (i := 2) (v := ?_) rfl (by kernel_rfl) (by kernel_rfl) (by kernel_rfl) (fun _ _ _ h => h) (Or.inl ⟨by rfl, ?_⟩) ?_
    rotate_left 1
    · (intro w; go_simp; try with_reducible rfl)
    simp only [List.getElem_toArray, List.getElem_cons_succ, List.getElem_cons_zero, Act.put, List.setIfInBounds_toArray, List.set_cons_zero, List.set_cons_succ]
    refine wpAny_take (i := 3) (v := ?_) rfl (by kernel_rfl) (by kernel_rfl) (by kernel_rfl) (fun _ _ _ h => h) (Or.inl ⟨by rfl, ?_⟩) ?_
    rotate_left 1
    · (intro w; go_simp; try with_reducible rfl)
    simp only [List.getElem_toArray, List.getElem_cons_succ, List.getElem_cons_zero, Act.put, List.setIfInBounds_toArray, List.set_cons_zero, List.set_cons_succ]
    refine wpAny_take (i := 4) (v := ?_) rfl (by kernel_rfl) (by kernel_rfl) (by kernel_rfl) (fun _ _ _ h => h) (Or.inl ⟨by rfl, ?_⟩) ?_
    rotate_left 1
    · (intro w; go_simp; try with_reducible rfl)
    simp only [List.getElem_toArray, List.getElem_cons_succ, List.getElem_cons_zero, Act.put, List.setIfInBounds_toArray, List.set_cons_zero, List.set_cons_succ]
    refine wpAny_take (i := 5) (v := ?_) rfl (by kernel_rfl) (by kernel_rfl) (by kernel_rfl) (fun _ _ _ h => h) (Or.inl ⟨by rfl, ?_⟩) ?_
    rotate_left 1
    · (intro w; go_simp; try with_reducible rfl)
    simp only [List.getElem_toArray, List.getElem_cons_succ, List.getElem_cons_zero, Act.put, List.setIfInBounds_toArray, List.set_cons_zero, List.set_cons_succ]
    refine wpAny_take (i := 6) (v := ?_) rfl (by kernel_rfl) (by kernel_rfl) (by kernel_rfl) (fun _ _ _ h => h) (Or.inl ⟨by rfl, ?_⟩) ?_
    rotate_left 1
    · (intro w; go_simp; try with_reducible rfl)
    simp only [List.getElem_toArray, List.getElem_cons_succ, List.getElem_cons_zero, Act.put, List.setIfInBounds_toArray, List.set_cons_zero, List.set_cons_succ]
    refine wpAny_take (i := 7) (v := ?_) rfl (by kernel_rfl) (by kernel_rfl) (by kernel_rfl) (fun _ _ _ h => h) (Or.inl ⟨by rfl, ?_⟩) ?_
    rotate_left 1
    · (intro w; go_simp; try with_reducible rfl)
    simp only [List.getElem_toArray, List.getElem_cons_succ, List.getElem_cons_zero, Act.put, List.setIfInBounds_toArray, List.set_cons_zero, List.set_cons_succ]
    refine wpAny_take (i := 8) (v := ?_) rfl (by kernel_rfl) (by kernel_rfl) (by kernel_rfl) (fun _ _ _ h => h) (Or.inl ⟨by rfl, ?_⟩) ?_
    rotate_left 1
    · (intro w; go_simp; try with_reducible rfl)
    simp only [List.getElem_toArray, List.getElem_cons_succ, List.getElem_cons_zero, Act.put, List.setIfInBounds_toArray, List.set_cons_zero, List.set_cons_succ]
    refine wpAny_take (i := 11) (v := ?_) rfl (by kernel_rfl) (by kernel_rfl) (by kernel_rfl) (fun _ _ _ h => h) (Or.inl ⟨by rfl, ?_⟩) ?_
    rotate_left 1
    · (intro w; go_simp; try with_reducible rfl)
    simp only [List.getElem_toArray, List.getElem_cons_succ, List.getElem_cons_zero, Act.put, List.setIfInBounds_toArray, List.set_cons_zero, List.set_cons_succ]
    refine wpAny_ready (rs := [9]) (by kernel_rfl) (by simp) ?_
    refine AllReady.cons rfl (fun K hK => ?_) AllReady.nil
    go_simp
    refine (Bytes_any p S s _ (HW.out _ H0.out).1).mono ?_
    rintro e w9 ⟨v4, rfl, r1, r2, r3⟩
    have H4 := Lib.hid (H0.out.trans r2 (fun _ h => h) (fun _ _ h => h))
    have Rc := Lib.hid r1
    have k4 := conv_row r1
    rw [← HX.out] at k4
    clear r1 r2 r3
    refine hK _ _ ?_
    clear hK K
    try simp only [List.getElem_toArray, List.getElem_cons_succ, List.getElem_cons_zero, Act.put, List.setIfInBounds_toArray, List.set_cons_zero, List.set_cons_succ]
    refine wpAny_ready (rs := [10, 12]) (by kernel_rfl) (by simp) ?_
    refine AllReady.cons rfl (fun K hK => ?_) (AllReady.cons rfl (fun K hK => ?_) AllReady.nil)
    · go_simp
      refine hK _ _ ?_
      clear hK K
      try simp only [List.getElem_toArray, List.getElem_cons_succ, List.getElem_cons_zero, Act.put, List.setIfInBounds_toArray, List.set_cons_zero, List.set_cons_succ]
      refine wpAny_ready (rs := [12]) (by kernel_rfl) (by simp) ?_
      refine AllReady.cons rfl (fun K hK => ?_) AllReady.nil
      · go_simp
        refine (Bytes_any p2 S2 s _ (HW.out _ H4.out).2).mono ?_
        rintro e w10 ⟨v5, rfl, r1, r2, r3⟩
        have H5 := Lib.hid (H4.out.trans r2 (fun _ h => h) (fun _ _ h => h))
        have k5 := conv_row r1
        have k6 := conv_row (r2.row Rc.out (fun _ _ h => h))
        rw [← HX.out] at k5 k6
        clear r1 r2 r3
        refine hK _ _ ?_
        clear hK K
        try simp only [List.getElem_toArray, List.getElem_cons_succ, List.getElem_cons_zero, Act.put, List.setIfInBounds_toArray, List.set_cons_zero, List.set_cons_succ]
        refine wpAny_ready (rs := [13]) (by kernel_rfl) (by simp) ?_
        refine AllReady.cons rfl (fun K hK => ?_) AllReady.nil
        · go_simp
          refine hK _ _ ?_
          clear hK K
          try simp only [List.getElem_toArray, List.getElem_cons_succ, List.getElem_cons_zero, Act.put, List.setIfInBounds_toArray, List.set_cons_zero, List.set_cons_succ]
          refine wpAny_take (i := 14) (v := ?_) rfl (by kernel_rfl) (by kernel_rfl) (by kernel_rfl) (fun _ _ _ h => h) (Or.inl ⟨by rfl, ?_⟩) ?_
          rotate_left 1
          · (intro w; go_simp; try with_reducible rfl)
          simp only [List.getElem_toArray, List.getElem_cons_succ, List.getElem_cons_zero, Act.put, List.setIfInBounds_toArray, List.set_cons_zero, List.set_cons_succ]
          refine wpAny_take (i := 15) (v := ?_) rfl (by kernel_rfl) (by kernel_rfl) (by kernel_rfl) (fun _ _ _ h => h) (Or.inl ⟨by rfl, ?_⟩) ?_
          rotate_left 1
          · (intro w; go_simp; try with_reducible rfl)
          simp only [List.getElem_toArray, List.getElem_cons_succ, List.getElem_cons_zero, Act.put, List.setIfInBounds_toArray, List.set_cons_zero, List.set_cons_succ]
          refine wpAny_take (i := 16) (v := ?_) rfl (by kernel_rfl) (by kernel_rfl) (by kernel_rfl) (fun _ _ _ h => h) (Or.inl ⟨by rfl, ?_⟩) ?_
          rotate_left 1
          · (intro w; go_simp; try with_reducible rfl)
          simp only [List.getElem_toArray, List.getElem_cons_succ, List.getElem_cons_zero, Act.put, List.setIfInBounds_toArray, List.set_cons_zero, List.set_cons_succ]
          refine wpAny_done (by kernel_rfl) ?_ _
          go_wp2
          go_ret
          exact ⟨rfl, HF8.out.trans H5.out (fun _ h => h) (fun _ _ h => h)⟩
    · go_simp
      refine (Bytes_any p2 S2 s _ (HW.out _ H4.out).2).mono ?_
      rintro e w10 ⟨v5, rfl, r1, r2, r3⟩
      have H5 := Lib.hid (H4.out.trans r2 (fun _ h => h) (fun _ _ h => h))
      have k5 := conv_row r1
      have k6 := conv_row (r2.row Rc.out (fun _ _ h => h))
      rw [← HX.out] at k5 k6
      clear r1 r2 r3
      refine hK _ _ ?_
      clear hK K
      try simp only [List.getElem_toArray, List.getElem_cons_succ, List.getElem_cons_zero, Act.put, List.setIfInBounds_toArray, List.set_cons_zero, List.set_cons_succ]
      refine wpAny_ready (rs := [10, 13]) (by kernel_rfl) (by simp) ?_
      refine AllReady.cons rfl (fun K hK => ?_) (AllReady.cons rfl (fun K hK => ?_) AllReady.nil)
      · go_simp
        refine hK _ _ ?_
        clear hK K
        try simp only [List.getElem_toArray, List.getElem_cons_succ, List.getElem_cons_zero, Act.put, List.setIfInBounds_toArray, List.set_cons_zero, List.set_cons_succ]
        refine wpAny_ready (rs := [13]) (by kernel_rfl) (by simp) ?_
        refine AllReady.cons rfl (fun K hK => ?_) AllReady.nil
        · go_simp
          refine hK _ _ ?_
          clear hK K
          try simp only [List.getElem_toArray, List.getElem_cons_succ, List.getElem_cons_zero, Act.put, List.setIfInBounds_toArray, List.set_cons_zero, List.set_cons_succ]
          refine wpAny_take (i := 14) (v := ?_) rfl (by kernel_rfl) (by kernel_rfl) (by kernel_rfl) (fun _ _ _ h => h) (Or.inl ⟨by rfl, ?_⟩) ?_
          rotate_left 1
          · (intro w; go_simp; try with_reducible rfl)
          simp only [List.getElem_toArray, List.getElem_cons_succ, List.getElem_cons_zero, Act.put, List.setIfInBounds_toArray, List.set_cons_zero, List.set_cons_succ]
          refine wpAny_take (i := 15) (v := ?_) rfl (by kernel_rfl) (by kernel_rfl) (by kernel_rfl) (fun _ _ _ h => h) (Or.inl ⟨by rfl, ?_⟩) ?_
          rotate_left 1
          · (intro w; go_simp; try with_reducible rfl)
          simp only [List.getElem_toArray, List.getElem_cons_succ, List.getElem_cons_zero, Act.put, List.setIfInBounds_toArray, List.set_cons_zero, List.set_cons_succ]
          refine wpAny_take (i := 16) (v := ?_) rfl (by kernel_rfl) (by kernel_rfl) (by kernel_rfl) (fun _ _ _ h => h) (Or.inl ⟨by rfl, ?_⟩) ?_
          rotate_left 1
          · (intro w; go_simp; try with_reducible rfl)
          simp only [List.getElem_toArray, List.getElem_cons_succ, List.getElem_cons_zero, Act.put, List.setIfInBounds_toArray, List.set_cons_zero, List.set_cons_succ]
          refine wpAny_done (by kernel_rfl) ?_ _
          go_wp2
          go_ret
          exact ⟨rfl, HF8.out.trans H5.out (fun _ h => h) (fun _ _ h => h)⟩
      · go_simp
        refine hK _ _ ?_
        clear hK K
        try simp only [List.getElem_toArray, List.getElem_cons_succ, List.getElem_cons_zero, Act.put, List.setIfInBounds_toArray, List.set_cons_zero, List.set_cons_succ]
        refine wpAny_ready (rs := [10]) (by kernel_rfl) (by simp) ?_
        refine AllReady.cons rfl (fun K hK => ?_) AllReady.nil
        · go_simp
          refine hK _ _ ?_
          clear hK K
          try simp only [List.getElem_toArray, List.getElem_cons_succ, List.getElem_cons_zero, Act.put, List.setIfInBounds_toArray, List.set_cons_zero, List.set_cons_succ]
          refine wpAny_take (i := 14) (v := ?_) rfl (by kernel_rfl) (by kernel_rfl) (by kernel_rfl) (fun _ _ _ h => h) (Or.inl ⟨by rfl, ?_⟩) ?_
          rotate_left 1
          · (intro w; go_simp; try with_reducible rfl)
          simp only [List.getElem_toArray, List.getElem_cons_succ, List.getElem_cons_zero, Act.put, List.setIfInBounds_toArray, List.set_cons_zero, List.set_cons_succ]
          refine wpAny_take (i := 15) (v := ?_) rfl (by kernel_rfl) (by kernel_rfl) (by kernel_rfl) (fun _ _ _ h => h) (Or.inl ⟨by rfl, ?_⟩) ?_
          rotate_left 1
          · (intro w; go_simp; try with_reducible rfl)
          simp only [List.getElem_toArray, List.getElem_cons_succ, List.getElem_cons_zero, Act.put, List.setIfInBounds_toArray, List.set_cons_zero, List.set_cons_succ]
          refine wpAny_take (i := 16) (v := ?_) rfl (by kernel_rfl) (by kernel_rfl) (by kernel_rfl) (fun _ _ _ h => h) (Or.inl ⟨by rfl, ?_⟩) ?_
          rotate_left 1
          · (intro w; go_simp; try with_reducible rfl)
          simp only [List.getElem_toArray, List.getElem_cons_succ, List.getElem_cons_zero, Act.put, List.setIfInBounds_toArray, List.set_cons_zero, List.set_cons_succ]
          refine wpAny_done (by kernel_rfl) ?_ _
          go_wp2
          go_ret
          exact ⟨rfl, HF8.out.trans H5.out (fun _ h => h) (fun _ _ h => h)⟩
end Go.Proofs.Ytniifefmjdjebaa
