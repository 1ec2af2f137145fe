/- Walk: ArenaOwn. -/
import Derived.Test.YtniifefmjdjebaaD3
import Derived.Test.YtniifefmjdjebaaC3
namespace Go.Proofs.Ytniifefmjdjebaa
open Go.RowKit
set_option linter.unusedVariables false
set_option linter.unusedSimpArgs false
/-- A second arena stands beside the state. -/
structure Own (w0 w : World) (p : Nat) (S : Nat → Prop) (s : AS) (R : List KRow) (pb : Nat) (Sb : Nat → Prop) (t : AS) : Prop where
  sx : Sx w0 w p S s R
  b : IsArena w pb Sb t
  ap : ∀ k, Sb k → ¬ S k ∧ ∀ r ∈ R, r.1.ownBlock ≠ some k
section
variable {w0 w w' : World} {p : Nat} {S : Nat → Prop} {s s' : AS} {R R' : List KRow} {pb : Nat} {Sb : Nat → Prop} {t : AS} {e : TypeId} {xs ys : List Value} {v v' x : Value}
theorem Sx.perm (h : Sx w0 w p S s R) (hp : R'.Perm R) : Sx w0 w p S s R' :=
  ⟨⟨h.st.arena, h.st.fr, h.st.new, fun r hr => h.st.rows r (hp.mem_iff.1 hr)⟩, (hp.pairwise_iff (fun h => h.symm)).2 h.apart, fun r hr => h.newr r (hp.mem_iff.1 hr)⟩
theorem Own.perm (h : Own w0 w p S s R pb Sb t) (hp : R'.Perm R) : Own w0 w p S s R' pb Sb t :=
  ⟨h.sx.perm hp, h.b, fun k hk => ⟨(h.ap k hk).1, fun r hr => (h.ap k hk).2 r (hp.mem_iff.1 hr)⟩⟩
theorem Own.row (h : Own w0 w p S s R pb Sb t) (h1 : w'.ownsRow 0 e 1 v xs.length xs) (h2 : Fr (fun _ => False) w w') (h3 : ∀ g, v.ownBlock = some g → w.heap.size ≤ g) : Own w0 w' p S s ((v, e, xs) :: R) pb Sb t := by
  refine ⟨h.sx.row h1 h2 h3, h.b.keep h2 (fun _ _ e => e), fun k hk => ⟨(h.ap k hk).1, fun r hr => ?_⟩⟩
  rcases List.mem_cons.1 hr with rfl | hr
  · intro hg
    have := h3 k hg
    have := h.b.lt hk
    omega
  · exact (h.ap k hk).2 r hr
theorem Own.head (h : Own w0 w p S s ((v, e, xs) :: R) pb Sb t) : w.ownsRow 0 e 1 v xs.length xs := h.sx.head
theorem Own.grown (h : Own w0 w p S s ((v, e, xs) :: R) pb Sb t) (h1 : w'.ownsRow 0 e 1 v' ys.length ys) (h2 : w.grownBy w' v.ownBlock) (h3 : ∀ g, v'.ownBlock = some g → v.ownBlock = some g ∨ w.heap.size ≤ g) : Own w0 w' p S s ((v', e, ys) :: R) pb Sb t := by
  have hfr : Fr (fun k => v.ownBlock = some k) w w' := Fr.of_grown h2 (fun k hk => hk)
  refine ⟨h.sx.grown h1 h2 h3, h.b.keep hfr (fun k hk => (h.ap k hk).2 _ List.mem_cons_self), fun k hk => ⟨(h.ap k hk).1, fun r hr => ?_⟩⟩
  rcases List.mem_cons.1 hr with rfl | hr
  · intro hg
    rcases h3 k hg with h4 | h4
    · exact (h.ap k hk).2 _ List.mem_cons_self h4
    · have := h.b.lt hk; omega
  · exact (h.ap k hk).2 r (List.mem_cons_of_mem _ hr)
theorem Own.appended {o : Obj} (h : Own w0 w p S s ((v, e, xs) :: R) pb Sb t)
    (h1 : w'.ownsRow 0 e 1 v' (xs.length + 1) (xs ++ [x])) (h2 : (w.alloc o).grownBy w' v.ownBlock) (h3 : v'.ownBlock = v.ownBlock ∨ v'.ownBlock = some (w.heap.size + 1)) : Own w0 w' p S s ((v', e, xs ++ [x]) :: R) pb Sb t := by
  refine h.grown (by simpa using h1) (grown_trans (World.grownBy_alloc w o _) h2) (fun g hg => ?_)
  rcases h3 with h4 | h4
  · exact .inl (h4 ▸ hg)
  · rw [h4] at hg; right; simp at hg; omega
theorem Own.stored {g cap : Nat} (h : Own w0 w p S s ((.slice (some ⟨g, 0, none⟩) xs.length cap, e, xs) :: R) pb Sb t) (j : Nat) (u : Value) : Own w0 (w.setCell ⟨g, j, none⟩ u) p S s ((.slice (some ⟨g, 0, none⟩) xs.length cap, e, xs.set j u) :: R) pb Sb t := by
  refine h.grown ?_ (h.head.stored j u).2 (fun _ h => .inl h)
  rw [List.length_set]
  exact (h.head.stored j u).1
theorem Own.put (h : Own w0 w p S s R pb Sb t) (h1 : IsArena w' p S s') (h2 : Fr S w w') : Own w0 w' p S s' R pb Sb t :=
  ⟨h.sx.put h1 h2, h.b.keep h2 (fun k hk => (h.ap k hk).1), h.ap⟩
theorem Own.turned (h : Own w0 w p S s R pb Sb t) (ht : Turned w w' p S s') : ∃ S', Own w0 w' p S' s' R pb Sb t := by
  obtain ⟨S', h'⟩ := h.sx.turned ht
  obtain ⟨S'', h1, h2, h3⟩ := ht
  have hx : Sx w0 w' p S'' s' R := by
    refine ⟨⟨h1, ?_, ?_, ?_⟩, h'.apart, h'.newr⟩
    · exact h'.st.fr
    · intro k hk
      rcases h3 k hk with h4 | h4
      · exact h.sx.st.new k h4
      · have := h.sx.st.fr.size; omega
    · intro r hr
      obtain ⟨hr1, hr2⟩ := h.sx.st.rows r hr
      refine ⟨h2.row hr1 hr2, fun k hk hs => ?_⟩
      rcases h3 k hs with h4 | h4
      · exact hr2 k hk h4
      · have := row_lt hr1 hk; omega
  refine ⟨S'', hx, h.b.keep h2 (fun k hk => (h.ap k hk).1), fun k hk => ⟨fun hs => ?_, (h.ap k hk).2⟩⟩
  rcases h3 k hs with h4 | h4
  · exact (h.ap k hk).1 h4
  · have := h.b.lt hk; omega
theorem Own.drewN (h : Own w0 w p S s R pb Sb t) (n : Nat) : Own w0 (w.drewN n) p S s R pb Sb t := ⟨h.sx.drewN n, h.b.drewN n, h.ap⟩
/-- The second arena, made behind the first. -/
theorem Sx.own {e : Ending} (h : Sx w0 w p S s []) (hm : MadeOk w t e w') : ∃ pb Sb, e = .returned (.pointer (some ⟨pb, 0, none⟩)) ∧ Own w0 w' p S s [] pb Sb t := by
  obtain ⟨pb, Sb, h1, h2, h3, h4⟩ := hm
  exact ⟨pb, Sb, h1, h.kept h3, h2, fun k hk => ⟨fun hs => by have := h4 k hk; have := h.st.arena.lt hs; omega, fun _ hr => by cases hr⟩⟩
end
set_option maxRecDepth 100000 in
set_option maxHeartbeats 4000000 in
theorem ArenaOwn_any (semi : Int) (a1 : Option Addr) (len1 cap1 : Nat) (c : Nat → CallD) (w : World) (hs : I64 semi) (h1 : CallsIn w a1 len1 c) :
    Calls Try.prog 4 #[.int .i64 semi, .slice a1 len1 cap1] w fun e w' => e = .returned (.bool true) ∧ Fr (fun _ => False) w w' := by
  have HI := Lib.hid h1; clear h1
  go_enter Try.func4, Try.ntmps4
  go_wp2_with fail
  refine (known_any _).mono ?_
  rintro e w1 ⟨rfl, hf1⟩
  have HF1 := Lib.hid hf1; clear hf1
  go_wp2_with fail
  refine (made_any semi a1 len1 cap1 c _ hs (HI.out.keep HF1.out)).mono ?_
  intro e w2 hm
  obtain ⟨p, S, rfl, hst⟩ := hm.st HF1.out
  obtain ⟨s, hsd⟩ : ∃ s, s = madeS semi c len1 := ⟨_, rfl⟩
  have Hs := Lib.hid hsd
  rw [← hsd] at hst
  clear hsd hm
  have HS := Lib.hid hst.sx; clear hst
  go_wp2_with fail
  refine (made_any semi a1 len1 cap1 c _ hs (HI.out.keep HS.out.st.fr)).mono ?_
  intro e w3 hm
  rw [← Hs.out] at hm
  obtain ⟨pb, Sb, rfl, ho⟩ := HS.out.own hm
  have HO := Lib.hid ho
  obtain ⟨s1, s2⟩ := ho.sx.st.small
  clear hm ho
  obtain ⟨XS, hXS⟩ : ∃ XS, XS = (encs s.used).map (Value.int .u8) := ⟨_, rfl⟩
  obtain ⟨LS, hLS⟩ : ∃ LS, LS = (addrs 0 s.used).map (Value.int .i64) := ⟨_, rfl⟩
  have e1 : XS.length ≤ 1048576 := by rw [hXS]; simp [encs_length]; omega
  have e2 : LS.length ≤ 1048576 := by rw [hLS]; simp [addrs_length]; omega
  have HXS := Lib.hid hXS
  have HLS := Lib.hid hLS
  clear hXS hLS s1 s2
  go_wp2_with fail
  refine (Bytes_any p S s _ HO.out.sx.st.arena).mono ?_
  rintro e w4 hr
  rw [← HXS.out] at hr
  obtain ⟨vx, rfl, q1, q2, q3⟩ := hr
  have HO4 := Lib.hid (HO.out.row q1 q2 q3)
  obtain ⟨ax, cx, rfl⟩ := row_form q1
  clear q1 q2 q3
  go_wp2_with fail
  refine (Bytes_any p S s _ HO4.out.sx.st.arena).mono ?_
  rintro e w5 hr
  rw [← HXS.out] at hr
  obtain ⟨vy, rfl, q1, q2, q3⟩ := hr
  have HO5 := Lib.hid (HO4.out.row q1 q2 q3)
  clear q1 q2 q3
  go_wp2_with fail
  refine (All_any p S s _ HO5.out.sx.st.arena).mono ?_
  rintro e w6 hr
  rw [← HLS.out] at hr
  obtain ⟨vl, rfl, q1, q2, q3⟩ := hr
  have HO6 := Lib.hid (HO5.out.row q1 q2 q3)
  obtain ⟨al, cl, rfl⟩ := row_form q1
  clear q1 q2 q3
  go_wp2_with fail
  refine (All_any p S s _ HO6.out.sx.st.arena).mono ?_
  rintro e w7 hr
  rw [← HLS.out] at hr
  obtain ⟨vm, rfl, q1, q2, q3⟩ := hr
  have HO7 := Lib.hid ((HO6.out.row q1 q2 q3).perm (List.reverse_perm _))
  clear q1 q2 q3
  obtain ⟨T, hT⟩ : ∃ T, T = strOfNums (encs s.used) := ⟨_, rfl⟩
  have HT := Lib.hid hT
  have ky : (Go.convert 33 9 vy).run Try.prog w7 = .ok (.string T) w7 := by
    have := (HO7.out.sx.st.rows (vy, 5, XS) (List.mem_cons_of_mem _ List.mem_cons_self)).1
    simp only [HXS.out] at this
    rw [hT]
    exact conv_row this
  clear hT
  obtain ⟨i2, hi2, hz2, hs2, hb2⟩ := info_parts info2
  obtain ⟨i5, hi5, hz5, hs5, hb5⟩ := info_parts info5
  go_wp2_with fail
  go_loopw [12] (fun i wr => ∃ (k : Nat) (xs : List Value), k ≤ XS.length ∧ i = .int .i64 k ∧ xs.length = XS.length ∧ Own w wr p S s [(.slice ax xs.length cx, 5, xs), (vy, 5, XS), (.slice al LS.length cl, 2, LS), (vm, 2, LS)] pb Sb s) (fun i _ => (XS.length - intOf i).toNat)
  case atStart => exact ⟨0, XS, by omega, rfl, rfl, HO7.out⟩
  case round =>
    obtain ⟨k, xs, hk, rfl, hxl, ho⟩ := hrel
    have HK := Lib.hid ho; clear ho
    by_cases hlt : k < XS.length
    · have hr := HK.out.head
      obtain ⟨gx, qx, _, ex, _, _, _⟩ := row_addr hr (by omega)
      simp only [Value.slice.injEq, true_and] at ex
      obtain ⟨rfl, rfl⟩ := ex
      have hfz : ∀ j, wr.frozen? ⟨gx, j, none⟩ = false := hr.frozenAt
      have hcell : ∃ u, wr.cell? ⟨gx, k, none⟩ = some u := ⟨_, (hr.cellAt k (by omega)).trans (List.getElem?_eq_getElem (by omega))⟩
      obtain ⟨u, hcell⟩ := hcell
      have Hxl := Lib.hid hxl
      clear hr hxl
      go_wp2
      go_roundw
      case rel => exact ⟨k + 1, xs.set k (.int .u8 238), by omega, by go_num, by rw [List.length_set]; exact Hxl.out, by have := HK.out.stored k (.int .u8 238); rw [List.length_set]; exact this⟩
      case measure => simp [intOf]; omega
    · have HL0 := Lib.hid (HK.out.perm (R' := [(.slice al LS.length cl, 2, LS), (.slice ax xs.length cx, 5, xs), (vy, 5, XS), (vm, 2, LS)]) (List.perm_middle (l₁ := [(.slice ax xs.length cx, 5, xs), (vy, 5, XS)])).symm)
      have Hxl := Lib.hid hxl
      clear hxl
      go_wp2_with fail
      go_loopw [13] (fun i wr => ∃ (k : Nat) (ls : List Value), k ≤ LS.length ∧ i = .int .i64 k ∧ ls.length = LS.length ∧ Own w wr p S s [(.slice al ls.length cl, 2, ls), (.slice ax xs.length cx, 5, xs), (vy, 5, XS), (vm, 2, LS)] pb Sb s) (fun i _ => (LS.length - intOf i).toNat)
      case atStart => exact ⟨0, LS, by omega, rfl, rfl, HL0.out⟩
      case round =>
        obtain ⟨j, ls, hj, rfl, hll, ho⟩ := hrel
        have HJ := Lib.hid ho; clear ho
        by_cases hjlt : j < LS.length
        · have hr := HJ.out.head
          obtain ⟨gl, ql, _, el, _, _, _⟩ := row_addr hr (by omega)
          simp only [Value.slice.injEq, true_and] at el
          obtain ⟨rfl, rfl⟩ := el
          have hfz : ∀ j, wr.frozen? ⟨gl, j, none⟩ = false := hr.frozenAt
          have hcell : ∃ u, wr.cell? ⟨gl, j, none⟩ = some u := ⟨_, (hr.cellAt j (by omega)).trans (List.getElem?_eq_getElem (by omega))⟩
          obtain ⟨u, hcell⟩ := hcell
          have Hll := Lib.hid hll
          clear hr hll
          go_wp2
          go_roundw
          case rel => exact ⟨j + 1, ls.set j (.int .i64 (-1)), by omega, by go_num, by rw [List.length_set]; exact Hll.out, by have := HJ.out.stored j (.int .i64 (-1)); rw [List.length_set]; exact this⟩
          case measure => simp [intOf]; omega
        · have HX0 := Lib.hid (HJ.out.perm (R' := [(.slice ax xs.length cx, 5, xs), (.slice al ls.length cl, 2, ls), (vy, 5, XS), (vm, 2, LS)]) (List.Perm.swap _ _ _))
          have Hll := Lib.hid hll
          clear hll
          go_wp2_with fail
          go_loopw [7, 9, 14] (fun vx vl i wr => ∃ (q : Nat) (xs ls : List Value), q ≤ 20 ∧ i = .int .i64 q ∧ xs.length = XS.length + q ∧ ls.length = LS.length + q ∧ Own w wr p S s [(vx, 5, xs), (vl, 2, ls), (vy, 5, XS), (vm, 2, LS)] pb Sb s) (fun _ _ i _ => (20 - intOf i).toNat)
          case atStart => exact ⟨0, xs, ls, by omega, rfl, Hxl.out, Hll.out, by have := HX0.out; rw [Hxl.out, Hll.out] at this; exact this⟩
          case round =>
            obtain ⟨q, xs, ls, hq, rfl, hxl, hll, ho⟩ := hrel
            have HQ := Lib.hid ho; clear ho
            by_cases hqlt : q < 20
            · have hr1 := HQ.out.head
              rw [hxl] at hr1
              have Hr1 := Lib.hid hr1
              have Hl := Lib.hid (And.intro hxl hll)
              clear hr1 hxl hll
              go_wp2_with (first | (at_builtin; refine wpList_append_own_at _ rfl _ _ 33 rfl 0 5 i5 (.int .u8 0) 1 1 und33 hi5 hz5 hs5 hb5 rfl (by decide) _ _ _ rfl (Hr1.out.alloc _) ⟨wr.heap.size, 0, none⟩ 1 1 [.int .u8 1] rfl rfl ?c1 ?c2 ?c3 ?c4 ?c5 ?_))
              case c1 => exact cell_one_new _ _ _
              case c2 => intro u hu; simp at hu; subst hu; rfl
              case c3 => unfold maxLen; omega
              case c4 => omega
              case c5 => exact Nat.zero_le _
              intro v7 w9 hown7 hgr7 _ hloc7
              have hx7 := HQ.out.appended (x := .int .u8 1) (v' := v7) (by rw [Hl.out.1]; exact hown7) hgr7 (by simpa using hloc7)
              have HX7 := Lib.hid (hx7.perm (R' := [(_, 2, ls), (v7, 5, xs ++ [.int .u8 1]), (vy, 5, XS), (vm, 2, LS)]) (List.Perm.swap _ _ _))
              clear hown7 hgr7 hloc7 hx7
              have hr2 := HX7.out.head
              rw [Hl.out.2] at hr2
              have Hr2 := Lib.hid hr2
              clear hr2
              go_wp2_with (first | (at_builtin; refine wpList_append_own_at _ rfl _ _ 38 rfl 0 2 i2 (.int .i64 0) 1 8 und38 hi2 hz2 hs2 hb2 rfl (by decide) _ _ _ rfl (Hr2.out.alloc _) ⟨w9.heap.size, 0, none⟩ 1 1 [.int .i64 2] rfl rfl ?d1 ?d2 ?d3 ?d4 ?d5 ?_))
              case d1 => exact cell_one_new _ _ _
              case d2 => intro u hu; simp at hu; subst hu; rfl
              case d3 => unfold maxLen; omega
              case d4 => omega
              case d5 => exact Nat.zero_le _
              intro v8 w10 hown8 hgr8 _ hloc8
              have hx8 := HX7.out.appended (x := .int .i64 2) (v' := v8) (by rw [Hl.out.2]; exact hown8) hgr8 (by simpa using hloc8)
              have HX8 := Lib.hid (hx8.perm (R' := [(v7, 5, xs ++ [.int .u8 1]), (v8, 2, ls ++ [.int .i64 2]), (vy, 5, XS), (vm, 2, LS)]) (List.Perm.swap _ _ _))
              clear hown8 hgr8 hloc8 hx8
              go_wp2
              go_roundw
              case rel => exact ⟨q + 1, _, _, by omega, by go_num, by rw [List.length_append, Hl.out.1]; rfl, by rw [List.length_append, Hl.out.2]; rfl, HX8.out⟩
              case measure => simp [intOf]; omega
            · clear hxl hll
              go_wp2_with fail
              refine (Make_any p 5 1 S s _ HQ.out.sx.st.arena (by unfold I64; omega)).mono ?_
              rintro e w9 ⟨rfl, q1⟩
              obtain ⟨S9, ho9⟩ := HQ.out.turned q1
              have HO9 := Lib.hid ho9
              clear q1 ho9
              obtain ⟨t9, ht9⟩ : ∃ t9, t9 = s.make 5 1 := ⟨_, rfl⟩
              rw [← ht9] at HO9
              clear ht9
              obtain ⟨z1, hz1⟩ : ∃ z1, z1 = s.makeA 1 := ⟨_, rfl⟩
              obtain ⟨z2, hz2⟩ : ∃ z2, z2 = s.makeE 1 := ⟨_, rfl⟩
              rw [← hz1, ← hz2]
              clear hz1 hz2
              go_wp2_with fail
              refine (Put_any p 8 0 99 S9 t9 _ HO9.out.sx.st.arena (by unfold I64; omega)).mono ?_
              rintro e w10 ⟨rfl, q1, q2⟩
              have HO10 := Lib.hid (HO9.out.put q1 q2)
              clear q1 q2
              obtain ⟨z3, hz3⟩ : ∃ z3, z3 = slotE (findOb 0 t9.used 8) 0 := ⟨_, rfl⟩
              rw [← hz3]
              clear hz3
              have ky10 : (Go.convert 33 9 vy).run Try.prog w10 = .ok (.string T) w10 := by
                have := (HO10.out.sx.st.rows (vy, 5, XS) (by simp)).1
                simp only [HXS.out] at this
                rw [HT.out]
                exact conv_row this
              go_wp2_with fail
              refine (Bytes_any pb Sb s _ HO10.out.b).mono ?_
              rintro e w11 ⟨vb, rfl, r1, r2, r3⟩
              have kb : (Go.convert 33 9 vb).run Try.prog w11 = .ok (.string T) w11 := by rw [HT.out]; exact conv_row r1
              have HO11 := Lib.hid (HO10.out.row r1 r2 r3)
              clear r1 r2 r3 ky10
              go_wp2_with fail
              refine (All_any pb Sb s _ HO11.out.b).mono ?_
              rintro e w12 ⟨vc, rfl, r1, r2, r3⟩
              have HO12 := Lib.hid (HO11.out.row r1 r2 r3)
              clear r1 r2 r3 kb
              have hm12 : w12.ownsRow 0 2 1 vm (addrs 0 s.used).length ((addrs 0 s.used).map (Value.int .i64)) := by
                have := (HO12.out.sx.st.rows (vm, 2, LS) (by simp)).1
                simp only [HLS.out, List.length_map] at this
                exact this
              have hc12 : w12.ownsRow 0 2 1 vc (addrs 0 s.used).length ((addrs 0 s.used).map (Value.int .i64)) := by
                have := (HO12.out.sx.st.rows (vc, 2, _) List.mem_cons_self).1
                simp only [List.length_map] at this
                exact this
              have HM := Lib.hid (And.intro hm12 hc12)
              clear hm12 hc12
              go_wp2_with fail
              refine (SameWords_any vm vc _ _ _ HM.out.1 HM.out.2).mono ?_
              rw [show sameW (addrs 0 s.used) (addrs 0 s.used) = true from decide_eq_true rfl]
              rintro e w13 ⟨rfl, nd, rfl⟩
              go_wp2
              go_ret
              exact ⟨rfl, (HO12.out.drewN nd).sx.st.fr⟩

end Go.Proofs.Ytniifefmjdjebaa
