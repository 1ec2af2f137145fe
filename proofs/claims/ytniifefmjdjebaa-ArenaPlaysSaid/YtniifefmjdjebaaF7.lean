/- Walks: the document's arena: Copy. -/
import Derived.Test.YtniifefmjdjebaaF6
import Derived.Test.YtniifefmjdjebaaM0
namespace Go.Proofs.Ytniifefmjdjebaa
open Go.RowKit
set_option linter.unusedVariables false
set_option linter.unusedSimpArgs false

theorem makeE_ok {s : AS} {n : Int} (h0 : 0 ≤ n) (h1 : n ≤ 65536) : s.makeE n = if roomB s n then 0 else 7 := by
  unfold AS.makeE; rw [if_neg (by omega)]
theorem AS.Good.make {s : AS} (h : s.Good) (kind n : Int) (hk : I64 kind) : (s.make kind n).Good := by
  unfold AS.make
  by_cases he : s.makeE n = 0
  · rw [if_pos he]
    have hb : 0 ≤ n ∧ n ≤ 65536 ∧ 16 + 8 * n ≤ s.semi - tot s.used := by
      unfold AS.makeE at he
      by_cases h1 : n < 0 ∨ n > 65536
      · rw [if_pos h1] at he; omega
      · rw [if_neg h1] at he
        by_cases h2 : roomB s n = true
        · exact of_decide_eq_true h2
        · rw [if_neg h2] at he; omega
    refine ⟨h.lo, h.hi, ?_, h.before, ?_, h.ahead⟩
    · show tot (s.used ++ [_]) ≤ s.semi
      rw [tot_append, show tot [(⟨kind, List.replicate n.toNat 0⟩ : Ob)] = 16 + 8 * n.toNat from by simp [tot, Ob.size]]
      have := h.fits
      omega
    · intro x hx
      rcases List.mem_append.1 hx with hx | hx
      · exact h.used x hx
      · simp only [List.mem_singleton] at hx
        subst hx
        refine ⟨hk, by simp; omega, fun v hv => ?_⟩
        obtain ⟨_, rfl⟩ := List.mem_replicate.1 hv
        unfold I64; omega
  · rw [if_neg he]; exact h
/-- The slots when k of them have been copied. -/
def slotsK (vs : List Int) (k : Nat) : List Int := vs.take k ++ List.replicate (vs.length - k) 0
theorem slotsK_zero (vs : List Int) : slotsK vs 0 = List.replicate vs.length 0 := by simp [slotsK]
theorem slotsK_all (vs : List Int) : slotsK vs vs.length = vs := by simp [slotsK]
theorem slotsK_length (vs : List Int) (k : Nat) (h : k ≤ vs.length) : (slotsK vs k).length = vs.length := by simp [slotsK]; omega
theorem slotsK_succ (vs : List Int) (k : Nat) (h : k < vs.length) : (slotsK vs k).set k (vs[k]?.getD 0) = slotsK vs (k + 1) := by
  unfold slotsK
  have h1 : (vs.take k).length = k := by simp; omega
  rw [List.set_append, if_neg (by omega), h1, Nat.sub_self, show vs.length - k = (vs.length - (k + 1)) + 1 from by omega, List.replicate_succ, List.set_cons_zero, List.take_succ_eq_append_getElem h, List.getElem?_eq_getElem h, List.append_assoc]
  rfl
set_option maxRecDepth 100000 in
set_option maxHeartbeats 2000000 in
theorem refCopy_any (q : Nat) (a : Int) (S : Nat → Prop) (s : AS) (w : World) (h : IsRef w q S s) (hg : s.Good) :
    Calls Try.prog 73 #[.pointer (some ⟨q, 0, none⟩), .int .i64 a] w fun e w' => e = .returned (.tuple #[.int .i64 (s.copyA a), .int .i64 (s.copyE a)]) ∧ TurnedR w w' q S (s.copy a) := by
  obtain ⟨vl, va, hl, ha, tl, h1, h2⟩ := h
  have H := Lib.hid (And.intro h1 (And.intro h2 hg))
  have c3 := blk_cell h1.top 3
  simp only [List.getElem?_toArray, List.getElem?_cons_succ, List.getElem?_cons_zero] at c3
  clear h1 h2 hg
  go_enter Try.func73, Try.ntmps73
  go_wp2_with fail
  refine (find_any va ha s.ahead _ a _ H.out.1.ahead H.out.2.2.before).mono ?_
  rintro e w1 ⟨u, rfl, hf, rfl⟩
  rcases hf with ⟨j, o, x, hj, hx, hadr, hfd, rfl⟩ | ⟨hfd, rfl⟩
  · have hob := H.out.1.ahead.obs j o x hj hx
    have hok := H.out.2.2.ahead x (List.mem_of_getElem? hx)
    rw [hadr] at hob
    have hd1 := blk_cell hob.cells 1
    have hd2 := blk_cell hob.cells 2
    have hd3 := blk_cell hob.cells 3
    simp only [List.getElem?_toArray, List.getElem?_cons_succ, List.getElem?_cons_zero] at hd1 hd2 hd3
    have hr := hob.row
    have hvl := hok.2.1
    obtain ⟨ob, ov⟩ := o
    simp only [optr] at hd1 hd2 hd3 hr ⊢
    obtain ⟨av, cv, rfl⟩ := row_form hr
    have HX := Lib.hid (And.intro hj (And.intro hx (And.intro hadr (And.intro hfd hok))))
    cases hm : s.moved a with
    | some t =>
      have ht := H.out.1.moved a t hm
      rw [hm, Option.getD_some] at hd3
      have hne : (t != 0) = true := by simp; omega
      have HM := Lib.hid hm
      clear hob hok hj hx hadr hfd hm c3 hr
      go_wp2
      go_ret2
      refine ⟨by unfold AS.copyA AS.copyE; rw [HX.out.2.2.2.1, HM.out]; rfl, S, ?_, Fr.refl _ _, fun _ h => .inl h⟩
      unfold AS.copy
      rw [HX.out.2.2.2.1, HM.out]
      exact ⟨vl, va, hl, ha, tl, H.out.1, H.out.2.1⟩
    | none =>
      rw [hm, Option.getD_none] at hd3
      have HM := Lib.hid hm
      have hmk := makeE_ok (s := s) (n := x.vs.length) (by omega) (by omega)
      have HMk := Lib.hid hmk
      obtain ⟨xn, hxn⟩ : ∃ xn, xn = x.vs.length := ⟨_, rfl⟩
      have Hxn := Lib.hid hxn
      rw [← hxn] at hd2 hr hvl HMk
      have Hr := Lib.hid hr
      clear hob hok hj hx hadr hfd hm c3 hr hmk hxn
      go_wp2_with fail
      refine wp_region_mid 10 _ _ rfl (by kernel_rfl) (by kernel_rfl) ?_
      simp only [List.take_succ_cons, List.take_zero]
      repeat still_step
      refine wpStill_nil ?_
      change wpList _ _ _ _ _ (w1.drewN 1)
      go_wp2_with fail
      refine (refMake'_any q x.kind xn vl va hl ha tl s _ (H.out.1.keep (T := fun _ => False) (Fr.drewN _ w1 1) (fun _ _ h => h)) H.out.2.2).mono ?_
      rw [HMk.out]
      by_cases hroom : roomB s xn = true
      · have HRm := Lib.hid hroom
        rw [if_pos hroom, show s.makeA xn = tot s.used + 8 from by unfold AS.makeA; rw [HMk.out, if_pos hroom, if_pos rfl], show s.make x.kind xn = { s with used := s.used ++ [⟨x.kind, List.replicate xn 0⟩] } from by unfold AS.make; rw [HMk.out, if_pos hroom, if_pos rfl]; rfl]
        have hgm := H.out.2.2.make x.kind xn HX.out.2.2.2.2.1
        rw [show s.make x.kind xn = { s with used := s.used ++ [⟨x.kind, List.replicate xn 0⟩] } from by unfold AS.make; rw [HMk.out, if_pos hroom, if_pos rfl]; rfl] at hgm
        rintro e w2 ⟨rfl, vl', hl', tl', i1, i2, i3⟩
        have HI := Lib.hid (And.intro i1 (And.intro i2 (And.intro i3 hgm)))
        clear i1 i2 i3 hgm hd1 hd2 hd3 hroom
        go_wp2_with fail
        change wpStill _ _ _ _ _ _
        repeat still_step
        refine wpStill_nil ?_
        go_wp2_with fail
        refine (refAt_any q _ vl' va hl' ha tl' _ _ HI.out.1 HI.out.2.2.2).mono ?_
        rintro e w3 ⟨u, rfl, hf, rfl⟩
        have hfa : findOb 0 (s.used ++ [(⟨x.kind, List.replicate xn 0⟩ : Ob)]) ((tot s.used : Int) + 8) = some ⟨x.kind, List.replicate xn 0⟩ := by rw [findOb_append, if_pos (by omega)]
        rcases hf with ⟨j', o', x', hj', hx', hadr', hfd', rfl⟩ | ⟨hfd', rfl⟩
        · simp only at hfd' hx' hadr' hj'
          rw [hfa] at hfd'
          obtain rfl := Option.some.inj hfd'
          have hjl : j' = s.used.length := by
            have hlt : j' < (s.used ++ [(⟨x.kind, List.replicate xn 0⟩ : Ob)]).length := (List.getElem?_eq_some_iff.1 hx').1
            refine adr_inj (s.used ++ [⟨x.kind, List.replicate xn 0⟩]) hlt (by simp) ?_
            rw [hadr']
            unfold adr; rw [List.take_left]
          subst hjl
          obtain ⟨ob', ov'⟩ := o'
          simp only [optr]
          have hrr := (HI.out.1.used.obs _ _ _ hj' hx').row
          simp only [List.length_replicate] at hrr
          obtain ⟨av', cv', rfl⟩ := row_form hrr
          have HJ := Lib.hid hj'
          clear hfa hfd' hx' hadr' hj' hrr
          go_wp2_with fail
          go_loopw [10] (fun i wr => ∃ k : Nat, k ≤ xn ∧ i = .int .i64 k ∧ IsRef' wr q vl' va hl' ha tl' { s with used := s.used ++ [⟨x.kind, slotsK x.vs k⟩] } ∧ Fr (RBlocks q vl' va (hl' ++ ha)) w3 wr) (fun i _ => (xn - intOf i).toNat)
          case atStart =>
            refine ⟨0, by omega, rfl, ?_, Fr.refl _ _⟩
            rw [slotsK_zero, ← Hxn.out]
            exact HI.out.1
          case round =>
            obtain ⟨k, hk, rfl, r1, r2⟩ := hrel
            have HK := Lib.hid (And.intro r1 r2)
            have hob := r1.ahead.obs j _ _ HX.out.1 HX.out.2.1
            have hd2 := blk_cell hob.cells 2
            have hd3 := blk_cell hob.cells 3
            have hfo : ∀ j, wr.frozen? ⟨ob, j, none⟩ = false := fun j => blk_free hob.cells j
            simp only [List.getElem?_toArray, List.getElem?_cons_succ, List.getElem?_cons_zero] at hd2 hd3
            have hro := hob.row
            have hxk : (s.used ++ [(⟨x.kind, slotsK x.vs k⟩ : Ob)])[s.used.length]? = some ⟨x.kind, slotsK x.vs k⟩ := by rw [List.getElem?_append_right (by omega), Nat.sub_self]; rfl
            have hnb := r1.used.obs _ _ _ HJ.out hxk
            have hn2 := blk_cell hnb.cells 2
            simp only [List.getElem?_toArray, List.getElem?_cons_succ, List.getElem?_cons_zero] at hn2
            have hrn := hnb.row
            simp only at hro hrn
            rw [← Hxn.out] at hro hd2
            rw [slotsK_length x.vs k (by rw [← Hxn.out]; exact hk), ← Hxn.out] at hrn
            by_cases hlt : k < xn
            · obtain ⟨g1, c1, _, e1, _, _, _⟩ := row_addr hro (by omega)
              simp only [Value.slice.injEq, true_and] at e1
              obtain ⟨rfl, rfl⟩ := e1
              obtain ⟨g2, c2, _, e2, _, _, _⟩ := row_addr hrn (by omega)
              simp only [Value.slice.injEq, true_and] at e2
              obtain ⟨rfl, rfl⟩ := e2
              have hcx := row_int hro hlt
              have hcn := row_int hrn hlt
              have hfz : ∀ j, wr.frozen? ⟨g2, j, none⟩ = false := hrn.frozenAt
              have hst := r1.store (j := k) (v := x.vs[k]?.getD 0) (x := ⟨x.kind, slotsK x.vs k⟩) (cap := cv') (b := ob') (g := g2) (i := s.used.length) (by rw [show (⟨x.kind, slotsK x.vs k⟩ : Ob).vs.length = xn from by show (slotsK x.vs k).length = xn; rw [slotsK_length x.vs k (by rw [← Hxn.out]; exact hk), Hxn.out]]; exact HJ.out) hxk
              simp only [slotsK_succ x.vs k (by rw [← Hxn.out]; exact hlt)] at hst
              rw [show (s.used ++ [(⟨x.kind, slotsK x.vs k⟩ : Ob)]).set s.used.length ⟨x.kind, slotsK x.vs (k + 1)⟩ = s.used ++ [⟨x.kind, slotsK x.vs (k + 1)⟩] from by rw [List.set_append, if_neg (by omega), Nat.sub_self]; rfl] at hst
              obtain ⟨y, hy⟩ : ∃ y, y = x.vs[k]?.getD 0 := ⟨_, rfl⟩
              rw [← hy] at hcx hst
              obtain ⟨z, hz⟩ : ∃ z, z = (slotsK x.vs k)[k]?.getD 0 := ⟨_, rfl⟩
              rw [← hz] at hcn
              have HS := Lib.hid hst
              clear hob hnb hro hrn hst hy hz r1 r2 hd3 hxk
              go_wp2_with fail
              go_still_tail 13, (by kernel_rfl)
              change wpList _ _ _ _ _ (wr.drewN 1)
              go_wp2
              go_roundw
              case rel =>
                refine ⟨k + 1, by omega, by go_num, ?_, ?_⟩
                · exact HS.out.1.keep (T := fun _ => False) (Fr.drewN _ _ 1) (fun _ _ h => h)
                · exact (HK.out.2.trans HS.out.2 (fun _ h => h) (fun _ _ h => h)).trans (Fr.drewN _ _ 1) (fun _ h => h) (fun _ _ h => h)
              case measure => simp [intOf]; omega
            · obtain rfl : k = xn := by omega
              have hto := r1.told (i := j) (b := ob) (t := (tot s.used : Int) + 8) HX.out.1 HX.out.2.1 (by omega)
              have HT := Lib.hid hto
              clear hob hnb hro hrn r1 r2 hn2 hxk hto
              go_wp2
              go_ret2
              have e1 : s.copyA a = tot s.used + 8 := by unfold AS.copyA; rw [HX.out.2.2.2.1, HM.out]; simp only; rw [← Hxn.out, HRm.out]; rfl
              have e2 : s.copyE a = 0 := by unfold AS.copyE; rw [HX.out.2.2.2.1, HM.out]; simp only; rw [← Hxn.out, HRm.out]; rfl
              have e3 : s.copy a = { s with used := s.used ++ [x], moved := fun k => if k = a then some ((tot s.used : Int) + 8) else s.moved k } := by unfold AS.copy; rw [HX.out.2.2.2.1, HM.out]; simp only; rw [← Hxn.out, HRm.out]; rfl
              rw [e1, e2, e3]
              have h5 := HT.out.1
              simp only [Hxn.out, slotsK_all] at h5
              rw [HX.out.2.2.1] at h5
              have hsub := HI.out.2.2.1
              have hfr : Fr S w1 w3 := (Fr.drewN S w1 1).trans (HI.out.2.1.mono (fun k _ hk => (H.out.2.1 k).2 hk)) (fun _ h => h) (fun _ _ h => h)
              have hnb' : ∀ k, RBlocks q vl' va (hl' ++ ha) k → S k ∨ w1.heap.size ≤ k := fun k hk => (hsub k hk).imp (H.out.2.1 k).2 id
              refine ⟨rfl, _, ⟨vl', va, hl', ha, tl', h5, fun _ => Iff.rfl⟩, ?_, hnb'⟩
              refine hfr.trans (HK.out.2.trans HT.out.2 (fun _ h => h) (fun _ _ h => h)) (fun _ h => h) (fun i hi e => ?_)
              rcases hnb' i e with h | h
              · exact h
              · omega
        · simp only at hfd'
          rw [hfa] at hfd'; cases hfd'
      · have hroom' : roomB s xn = false := by simpa using hroom
        rw [if_neg hroom, show s.makeA xn = 0 from by unfold AS.makeA; rw [HMk.out, if_neg hroom]; rfl, show s.make x.kind xn = s from by unfold AS.make; rw [HMk.out, if_neg hroom]; rfl]
        rintro e w2 ⟨rfl, vl', hl', tl', i1, i2, i3⟩
        have HI := Lib.hid (And.intro i1 (And.intro i2 i3))
        have HRm := Lib.hid hroom'
        clear i1 i2 i3 hroom hroom' hd1 hd2 hd3
        go_wp2_with fail
        change wpStill _ _ _ _ _ _
        repeat still_step
        refine wpStill_nil ?_
        go_wp2
        go_ret2
        have e1 : s.copyA a = 0 := by unfold AS.copyA; rw [HX.out.2.2.2.1, HM.out]; simp only; rw [← Hxn.out, HRm.out]; rfl
        have e2 : s.copyE a = 7 := by unfold AS.copyE; rw [HX.out.2.2.2.1, HM.out]; simp only; rw [← Hxn.out, HRm.out]; rfl
        have e3 : s.copy a = s := by unfold AS.copy; rw [HX.out.2.2.2.1, HM.out]; simp only; rw [← Hxn.out, HRm.out]; rfl
        rw [e1, e2, e3]
        exact ⟨rfl, _, ⟨vl', va, hl', ha, tl', HI.out.1, fun _ => Iff.rfl⟩, (Fr.drewN S w1 1).trans (HI.out.2.1.mono (fun k _ hk => (H.out.2.1 k).2 hk)) (fun _ h => h) (fun _ _ h => h), fun k hk => (HI.out.2.2 k hk).imp (H.out.2.1 k).2 id⟩
  · have Hfd := Lib.hid hfd
    clear hfd c3
    go_wp2
    go_ret2
    refine ⟨by unfold AS.copyA AS.copyE; rw [Hfd.out]; rfl, S, ?_, Fr.refl _ _, fun _ h => .inl h⟩
    unfold AS.copy
    rw [Hfd.out]
    exact ⟨vl, va, hl, ha, tl, H.out.1, H.out.2.1⟩
end Go.Proofs.Ytniifefmjdjebaa
