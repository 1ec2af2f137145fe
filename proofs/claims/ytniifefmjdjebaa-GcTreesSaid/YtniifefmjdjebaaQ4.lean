/- Walk: GcTrees. -/
import Derived.Test.YtniifefmjdjebaaQ3
import Derived.Test.YtniifefmjdjebaaQ1
import Derived.Deep.LoopGhost
namespace Go.Proofs.Ytniifefmjdjebaa
open Go.RowKit
set_option linter.unusedVariables false
set_option linter.unusedSimpArgs false
theorem tlow_tot (sh : Bool) : ∀ k, tot (tlow sh k).1 ≤ 16 + 32 * k
  | 0 => by show tot [_] ≤ _; rw [tot_cons, tot_nil]; simp [Ob.size]
  | k + 1 => by
    have ih := tlow_tot sh k
    unfold tlow
    split
    · show tot (tlow sh k).1 ≤ _; omega
    · show tot ((tlow sh k).1 ++ [_]) ≤ _
      rw [tot_append, tot_cons, tot_nil]; simp only [Ob.size, List.length_cons, List.length_nil]; omega
theorem tup_tot (U : List Ob) (lev : List Int) : ∀ k, tot (tup U lev k).1 = tot U + 32 * k
  | 0 => rfl
  | k + 1 => by
    show tot ((tup U lev k).1 ++ [_]) = _
    rw [tot_append, tot_cons, tot_nil, tup_tot U lev k]; simp only [Ob.size, List.length_cons, List.length_nil]; omega
theorem tbuild_len (sh : Bool) (d : Nat) : ∀ r, r ≤ d → (tbuild sh d r).2.length = 2 ^ (d - r)
  | 0, _ => by show (tlow sh (2 ^ d)).2.length = _; rw [tlow_len]; rfl
  | r + 1, h => by
    show (tup _ _ (2 ^ (d - r - 1))).2.length = _
    rw [tup_len]; rfl
theorem tbuild_tot (sh : Bool) (d : Nat) : ∀ r, r ≤ d → tot (tbuild sh d r).1 + 32 * 2 ^ (d - r) ≤ 16 + 32 * 2 ^ d + 32 * 2 ^ d
  | 0, _ => by
    have h := tlow_tot sh (2 ^ d)
    show tot (tlow sh (2 ^ d)).1 + 32 * 2 ^ d ≤ _; omega
  | r + 1, h => by
    have ih := tbuild_tot sh d r (by omega)
    show tot (tup _ _ (2 ^ (d - r - 1))).1 + _ ≤ _
    rw [tup_tot]
    have e : 2 ^ (d - r) = 2 * 2 ^ (d - (r + 1)) := by rw [show d - r = (d - (r + 1)) + 1 from by omega, Nat.pow_succ]; omega
    have e2 : d - r - 1 = d - (r + 1) := by omega
    rw [e2]; omega
theorem tlow_mem (sh : Bool) : ∀ k, ∀ x ∈ (tlow sh k).2, 8 ≤ x ∧ x ≤ 24 + 32 * (k : Int)
  | 0 => fun x hx => by simp [tlow] at hx
  | k + 1 => fun x hx => by
    have ih := tlow_mem sh k x
    have ht := tlow_tot sh k
    unfold tlow at hx
    split at hx
    · rcases List.mem_append.1 hx with h | h
      · have := ih h; omega
      · simp at h; omega
    · rcases List.mem_append.1 hx with h | h
      · have := ih h; omega
      · simp at h; omega
theorem tup_mem (U : List Ob) (lev : List Int) : ∀ k, ∀ x ∈ (tup U lev k).2, 8 ≤ x ∧ x ≤ (tot U : Int) + 8 + 32 * (k : Int)
  | 0 => fun x hx => by simp [tup] at hx
  | k + 1 => fun x hx => by
    have ih := tup_mem U lev k x
    have ht := tup_tot U lev k
    unfold tup at hx
    rcases List.mem_append.1 hx with h | h
    · have := ih h; omega
    · simp at h; omega
theorem tbuild_mem (sh : Bool) (d : Nat) (hd : 2 ^ d ≤ 32) : ∀ r, r ≤ d → ∀ x ∈ (tbuild sh d r).2, 8 ≤ x ∧ x ≤ 100000
  | 0, _ => fun x hx => by
    have := tlow_mem sh (2 ^ d) x hx
    omega
  | r + 1, h => fun x hx => by
    have h1 := tup_mem _ _ (2 ^ (d - r - 1)) x hx
    have h2 := tbuild_tot sh d r (by omega)
    have h3 : 2 ^ (d - r - 1) ≤ 2 ^ d := Nat.pow_le_pow_right (by omega) (by omega)
    omega
theorem T1.rebase {w0 wb : World} {B : Nat → Prop} {w : World} {p : Nat} {S : Nat → Prop} {s : AS} {u : Value} {xs : List Int} (h : T1 w0 wb B w p S s u xs) : T1 w0 w S w p S s (.slice none 0 0) [] :=
  ⟨h.a, h.fr, h.new, Fr.refl _ _, fun _ h => .inl h, World.ownsRow_nil _ _ _ _, by simp [Value.ownBlock]⟩
theorem wrap_small (E : Nat) (h2 : E ≤ 32) : wrap64 (E : Int) = (E : Int) := by unfold wrap64; omega
theorem wrap_in (E IN : Nat) (h : (IN : Int) = (E : Int) - 1) (h2 : E ≤ 32) : wrap64 (wrap64 (E : Int) - 1) = (IN : Int) := by unfold wrap64; omega
theorem tree_facts (sh : Bool) (d : Nat) (hd : d < 6) : ∃ root, (tbuild sh d d).2 = [root] ∧ isOb (tstate (tbuild sh d d).1) root = true ∧ collectR (tstate (tbuild sh d d).1) [] [root] = [8] ∧
    (collectS (tstate (tbuild sh d d).1) [] [root]).used.length = (if sh = true then 2 ^ d - 1 + 1 else 2 ^ (d + 1) - 1) ∧ tslotsOk sh d (collectS (tstate (tbuild sh d d).1) [] [root]).used = true := by
  have h := trees_ok sh ⟨d, hd⟩
  simp only [treeOk, Bool.and_eq_true, decide_eq_true_eq] at h
  obtain ⟨⟨⟨⟨h1, h2⟩, h3⟩, h4⟩, h5⟩ := h
  obtain ⟨r, hr⟩ := List.length_eq_one_iff.1 h1
  rw [hr] at h2 h3 h4 h5
  exact ⟨r, hr, h2, h3, h4, h5⟩
theorem tree_slot (sh : Bool) (d i p q : Nat) (L : List Ob) (h : tslotsOk sh d L = true) (hi : i < 2 ^ d - 1)
    (hp : p = if sh = true ∧ 2 * i + 1 ≥ 2 ^ d - 1 then 2 ^ d - 1 else 2 * i + 1) (hq : q = if sh = true ∧ 2 * i + 1 ≥ 2 ^ d - 1 then 2 ^ d - 1 else 2 * i + 2) :
    i < L.length ∧ p < L.length ∧ q < L.length ∧ ∃ x, findOb 0 L ((addrs 0 L)[i]?.getD 0) = some x ∧ slotE (some x) 0 = 0 ∧ slotE (some x) 1 = 0 ∧ getV (some x) 0 = (addrs 0 L)[p]?.getD 0 ∧ getV (some x) 1 = (addrs 0 L)[q]?.getD 0 := by
  have h1 := (List.all_eq_true.1 h) i (List.mem_range.2 hi)
  simp only at h1
  rw [← hp, ← hq] at h1
  cases hx : L[i]? with
  | none => rw [hx] at h1; simp at h1
  | some x =>
    rw [hx] at h1
    simp only [Bool.and_eq_true, decide_eq_true_eq] at h1
    obtain ⟨⟨h2, h3⟩, h4, h5, h6⟩ := h1
    obtain ⟨hl, e⟩ := List.getElem?_eq_some_iff.1 hx
    refine ⟨hl, h2, h3, x, ?_, ?_, ?_, ?_, ?_⟩
    · rw [addrs_adr L i hl, find_adr L i hl, e]
    · unfold slotE; simp only; rw [h4]; rfl
    · unfold slotE; simp only; rw [h4]; rfl
    · rw [addrs_adr L p h2, ← h5]; unfold getV; simp only; rw [h4]; simp
    · rw [addrs_adr L q h3, ← h6]; unfold getV; simp only; rw [h4]; simp
set_option maxRecDepth 100000 in
set_option maxHeartbeats 8000000 in
theorem GcTrees_any (deep : Int) (sh : Bool) (w : World) (hn : I64 deep) :
    Calls Try.prog 15 #[.int .i64 deep, .bool sh] w fun e w' => e = .returned (.bool true) ∧ Fr (fun _ => False) w w' := by
  obtain ⟨i2, hi2, hz2, hs2, hb2⟩ := info_parts info2
  have HI := Lib.hid hn
  have hm0 := Int.emod_nonneg deep (show (6 : Int) ≠ 0 by omega)
  have hm1 := Int.emod_lt_of_pos deep (show (0 : Int) < 6 by omega)
  clear hn
  go_enter Try.func15, Try.ntmps15
  go_wp2_with fail
  refine (gcKnown_any _).mono ?_
  rintro e w1 ⟨rfl, hf1⟩
  have HF1 := Lib.hid hf1; clear hf1
  go_wp2_with fail
  refine (in_any deep 6 _ (by omega) (by omega) HI.out).mono ?_
  rintro e w2 ⟨rfl, rfl⟩
  obtain ⟨d, hd⟩ := Int.eq_ofNat_of_zero_le hm0
  rw [hd] at hm1 ⊢
  clear hd hm0
  go_wp2_with fail
  refine (New_any 16384 _ (by omega) (by omega)).mono ?_
  rintro e w4 ⟨p, S, rfl, q1, q2, q3⟩
  have HT0 := Lib.hid (show T1 w2 w4 S w4 p S (tstate []) (.slice none 0 0) [] from
    ⟨q1, q2, q3, Fr.refl _ _, fun _ h => .inl h, World.ownsRow_nil _ _ _ _, by simp [Value.ownBlock]⟩)
  clear q1 q2 q3
  go_wp2_with fail
  refine (Make_any p (-1) 0 S _ _ HT0.out.a (by unfold I64; omega)).mono ?_
  rw [show (tstate []).makeA 0 = 8 from by decide, show (tstate []).makeE 0 = 0 from by decide]
  rintro e w5 ⟨rfl, q1⟩
  obtain ⟨S1, h5⟩ := HT0.out.turn q1
  have H5 := Lib.hid h5
  clear q1 h5
  obtain ⟨E, hE⟩ : ∃ E : Nat, E = 2 ^ d := ⟨_, rfl⟩
  have hE32 : 1 ≤ E ∧ E ≤ 32 := by
    have h6 : d < 6 := by omega
    have : d = 0 ∨ d = 1 ∨ d = 2 ∨ d = 3 ∨ d = 4 ∨ d = 5 := by omega
    rcases this with rfl | rfl | rfl | rfl | rfl | rfl <;> (rw [hE]; decide)
  have hp0 : (2 : Int) ^ d = (E : Int) := by rw [hE]; simp
  have hp1 : (2 : Int) ^ (1 + d) = 2 * (E : Int) := by rw [Int.pow_add, hp0]; rfl
  have HE := Lib.hid (And.intro hE (And.intro (show d < 6 from by omega) (And.intro hp0 hp1)))
  obtain ⟨hE1, hE2⟩ := hE32
  have hd6 : (d : Int) < 6 := hm1
  clear hE hm1 hp0 hp1
  go_wp2_with fail
  rw [HE.out.2.2.2, show wrap64 (wrap64 (2 * (E : Int)) - 1) = 2 * (E : Int) - 1 from by unfold wrap64; omega]
  have HT5 := Lib.hid (show T1 w2 (w5.alloc (.cells #[] 2)) S1 (w5.alloc (.cells #[] 2)) p S1 (tstate (tlow sh 0).1) (.slice (some ⟨w5.heap.size, 0, none⟩) 0 0) (tlow sh 0).2 ∨ True from .inr trivial)
  have HT6 := Lib.hid (show T1 w2 w5 S1 (w5.alloc (.cells #[] 2)) p S1 (tstate (tlow sh 0).1) (.slice (some ⟨w5.heap.size, 0, none⟩) 0 0) (tlow sh 0).2 from by
    have hk := H5.out.kept (Fr.alloc (fun _ => False) w5 (.cells #[] 2))
    have hr := World.ownsRow_lit (base := 0) (e := 2) (size := 1) w5 #[] 0 (Nat.zero_le _) (by unfold maxLen; omega) rfl
    exact ⟨hk.a, hk.fr, hk.new, Fr.alloc _ _ _, fun _ h => .inl h, hr, fun k hk2 => by
      have h7 : w5.heap.size = k := Option.some.inj hk2
      exact ⟨fun e => by have := H5.out.a.lt e; omega, by omega, by have := H5.out.fr.size; omega⟩⟩)
  clear HT5
  obtain ⟨w6, hw6⟩ : ∃ w6, w6 = w5.alloc (.cells #[] 2) := ⟨_, rfl⟩
  rw [← hw6] at HT6 ⊢
  clear hw6
  obtain ⟨ub, hub⟩ : ∃ ub, ub = w5.heap.size := ⟨_, rfl⟩
  rw [← hub] at HT6 ⊢
  clear hub
  go_loopw [9, 11] (fun u x11 wr => ∃ (i : Nat) (S' : Nat → Prop), i ≤ E ∧ x11 = .int .i64 i ∧ T1 w2 w5 S1 wr p S' (tstate (tlow sh i).1) u (tlow sh i).2) (fun _ x11 _ => (E - intOf x11).toNat)
  case atStart => exact ⟨0, S1, by omega, rfl, HT6.out⟩
  case round =>
    obtain ⟨i, S2, hi, rfl, ht⟩ := hrel
    have HW := Lib.hid ht; clear ht
    have hrow := HW.out.row
    rw [tlow_len] at hrow
    obtain ⟨au, cu, rfl⟩ := row_form hrow
    have Hrow := Lib.hid hrow
    clear hrow
    have hp0 := HE.out.2.2.1
    have hwE : wrap64 (E : Int) = (E : Int) := by unfold wrap64; omega
    by_cases hlt : i < E
    · cases sh with
      | true =>
        go_wp2_with (first | (at_builtin; refine wpList_append_own_at _ rfl _ _ 38 rfl 0 2 i2 (.int .i64 0) 1 8 und38 hi2 hz2 hs2 hb2 rfl (by decide) _ _ _ rfl (Hrow.out.alloc _) ⟨wr.heap.size, 0, none⟩ 1 1 [.int .i64 8] rfl rfl (fun j u hu => cell_one_new _ _ _ j u hu) (by intro u hu; simp at hu; subst hu; rfl) (by unfold maxLen; omega) (by omega) (Nat.zero_le _) ?_))
        intro v8 w8 hown hgr _ hloc
        have H8 := Lib.hid (show T1 w2 w5 S1 w8 p S2 (tstate (tlow true (i + 1)).1) v8 (tlow true (i + 1)).2 from
          HW.out.appended (by rw [tlow_len]; exact hown) hgr (by simpa using hloc))
        clear hown hgr hloc
        go_wp2
        go_roundw
        case rel => exact ⟨i + 1, S2, by omega, by go_num, H8.out⟩
        case measure => simp [intOf]; omega
      | false =>
        have htt := tlow_tot false i
        have hmk := make_room (tstate (tlow false i).1) (-2) 2 (by omega) (by omega) (by show _ ≤ ((16384 : Nat) : Int) - ((tot (tlow false i).1 : Nat) : Int); omega)
        have HMk := Lib.hid hmk
        clear hmk
        go_wp2_with fail
        refine (Make_any p (-2) 2 S2 _ _ HW.out.a (by unfold I64; omega)).mono ?_
        rw [HMk.out.1, HMk.out.2.1, HMk.out.2.2]
        obtain ⟨ad, had⟩ : ∃ ad : Int, ad = ((tot (tstate (tlow false i).1).used : Nat) : Int) + 8 := ⟨_, rfl⟩
        have Had := Lib.hid (show ad = ((tot (tlow false i).1 : Nat) : Int) + 8 from had)
        rw [← had]
        clear had htt
        rintro e w7 ⟨rfl, q1⟩
        obtain ⟨S3, h7⟩ := HW.out.turn q1
        have H7 := Lib.hid h7
        have hr7 := h7.row
        rw [tlow_len] at hr7
        have Hr7 := Lib.hid hr7
        clear q1 h7 hr7
        go_wp2_with (first | (at_builtin; refine wpList_append_own_at _ rfl _ _ 38 rfl 0 2 i2 (.int .i64 0) 1 8 und38 hi2 hz2 hs2 hb2 rfl (by decide) _ _ _ rfl (Hr7.out.alloc _) ⟨w7.heap.size, 0, none⟩ 1 1 [.int .i64 ad] rfl rfl (fun j u hu => cell_one_new _ _ _ j u hu) (by intro u hu; simp at hu; subst hu; rfl) (by unfold maxLen; omega) (by omega) (Nat.zero_le _) ?_))
        intro v8 w8 hown hgr _ hloc
        have H8 := Lib.hid (show T1 w2 w5 S1 w8 p S3 (tstate (tlow false (i + 1)).1) v8 (tlow false (i + 1)).2 from by
          have h9 := H7.out.appended (x := ad) (by rw [tlow_len]; exact hown) hgr (by simpa using hloc)
          rw [Had.out] at h9
          exact h9)
        clear hown hgr hloc
        go_wp2
        go_roundw
        case rel => exact ⟨i + 1, S3, by omega, by go_num, H8.out⟩
        case measure => simp [intOf]; omega
    · cases sh with
      | true =>
        have him : i = E := by omega
        have HS0 := Lib.hid (show T1 w2 w5 S1 wr p S2 (tstate (tbuild true d 0).1) (.slice au i cu) (tbuild true d 0).2 from by
          show T1 w2 w5 S1 wr p S2 (tstate (tlow true (2 ^ d)).1) (.slice au i cu) (tlow true (2 ^ d)).2
          rw [← HE.out.1, ← him]; exact HW.out)
        clear him Hrow
        go_wp2_with fail
        clear hwE hp0
        rw [Nat.add_sub_cancel_left]
        go_loopg [9] d (fun gk u wz => ∃ (r : Nat) (wb : World) (B S' : Nat → Prop), r + gk = d ∧ T1 w2 wb B wz p S' (tstate (tbuild true d r).1) u (tbuild true d r).2)
        case atStart => exact ⟨0, w5, S1, S2, by omega, HS0.out⟩
        case round =>
          clear HS0 HW
          obtain ⟨r, wb, B, S3, hrd, ht⟩ := hrel
          have HW := Lib.hid ht; clear ht
          have hlen := tbuild_len true d r (by omega)
          have hbt := tbuild_tot true d r (by omega)
          have hbm := tbuild_mem true d (by rw [← HE.out.1]; exact hE2) r (by omega)
          rw [show d - r = gk from by omega] at hlen hbt
          rw [← HE.out.1] at hbt
          obtain ⟨U, hU⟩ : ∃ U, U = (tbuild true d r).1 := ⟨_, rfl⟩
          obtain ⟨lev, hlev⟩ : ∃ lev, lev = (tbuild true d r).2 := ⟨_, rfl⟩
          rw [← hU, ← hlev] at HW
          rw [← hlev] at hlen hbm
          rw [← hU] at hbt
          have HUl := Lib.hid (And.intro hU hlev)
          have hrow := HW.out.row
          rw [hlen] at hrow
          obtain ⟨al, cl, rfl⟩ := row_form hrow
          clear hU hlev
          by_cases hg : gk = 0
          · subst hg
            obtain rfl : r = d := by omega
            rw [show (2 : Nat) ^ 0 = 1 from rfl] at hrow hlen hbt ⊢
            obtain ⟨root, hf1, hf2, hf3, hf4, hf5⟩ := tree_facts true r HE.out.2.1
            rw [← HUl.out.1] at hf2 hf3 hf4 hf5
            rw [← HUl.out.2] at hf1
            rw [if_pos rfl] at hf4
            subst hf1
            have HT := Lib.hid (And.intro hf2 (And.intro hf3 (And.intro hf4 hf5)))
            obtain ⟨g, c, _, eg, _, _, _⟩ := row_addr hrow (by omega)
            simp only [Value.slice.injEq, true_and] at eg
            obtain ⟨rfl, rfl⟩ := eg
            have hcf := row_int hrow (j := 0) (by omega)
            simp only [List.getElem?_cons_zero, Option.getD_some] at hcf
            have HCf := Lib.hid (show (wr.drewN 1).cell? ⟨g, 0, none⟩ = some (.int .i64 root) from hcf)
            have HgS := Lib.hid (show ¬ S3 g from (HW.out.far g rfl).1)
            have hrl := World.ownsRow_lit (base := 0) (e := 2) (size := 1) wr #[.int .i64 root] 1 (Nat.zero_le _) (by unfold maxLen; omega) rfl
            have HRl := Lib.hid (show ((wr.alloc (.cells #[.int .i64 root] 2)).drewN 1).ownsRow 0 2 1 (.slice (some ⟨wr.heap.size, 0, none⟩) 1 1) [root].length ([root].map (Value.int .i64)) from hrl)
            have HWl := Lib.hid (HW.out.kept ((Fr.alloc (fun _ => False) wr (.cells #[.int .i64 root] 2)).trans (Fr.drewN _ _ 1) (fun _ h => h) (fun _ _ h => h)))
            have HfS := Lib.hid (show ∀ k, (Value.slice (some ⟨wr.heap.size, 0, none⟩) 1 1).ownBlock = some k → ¬ S3 k from fun k hk e => by
              have h7 : wr.heap.size = k := Option.some.inj hk
              have h8 := HW.out.a.lt e
              omega)
            clear hf2 hf3 hf4 hf5 hrow hlen hbt hbm hcf hrl
            go_wp2_with fail
            go_region_held3 (fun w' => w'.cell? ⟨g, 0, none⟩ = some (.int .i64 root))
              (first | exact HCf.out | exact (Fr.alloc (fun _ => False) _ _).cell HCf.out id | exact HC6.out)
              (first
                | (go_at_call 48; refine (all_any _).mono ?_; rintro e w5 ⟨rfl, rfl⟩)
                | (go_at_call 47; refine (Collect_ok p none 0 0 _ [root] S3 _ [] (fun _ => False) [] _ HWl.out.a HRl.out (by intro a ha; simp at ha; subst ha; exact .inr HT.out.1) (TabIs.none _) (fun _ h => h.elim) HfS.out (by simp)).mono ?_; rintro e w6 ⟨nv, rfl, q1, q2, S4, q3, q4, q5, q6⟩; have HC6 := Lib.hid (q4.cell (show ((wr.alloc (.cells #[.int .i64 root] 2)).drewN 1).cell? ⟨g, 0, none⟩ = some (.int .i64 root) from (Fr.alloc (fun _ => False) _ _).cell HCf.out id) HgS.out); have H6 := Lib.hid (And.intro (HWl.out.turned q3 q4 q5) q1); clear q1 q2 q3 q4 q5 q6))
            all_goals (
              have hnv := H6.out.2
              rw [HT.out.2.1] at hnv
              obtain ⟨an, cn, rfl⟩ := row_form hnv
              obtain ⟨gn, dn, _, en, _, _, _⟩ := row_addr hnv (by simp)
              simp only [Value.slice.injEq, true_and] at en
              obtain ⟨rfl, rfl⟩ := en
              have hc8 := row_int hnv (j := 0) (by simp)
              simp only [List.getElem?_cons_zero, Option.getD_some, List.length_cons, List.length_nil] at hc8 ⊢
              obtain ⟨s2, hs2⟩ : ∃ s2, s2 = collectS (tstate U) [] [root] := ⟨_, rfl⟩
              rw [← hs2] at H6 HT
              have HA6 := Lib.hid H6.out.1
              obtain ⟨A, hA⟩ : ∃ A, A = addrs 0 s2.used := ⟨_, rfl⟩
              have hAl : A.length = s2.used.length := by rw [hA, addrs_length]
              rw [HT.out.2.2.1] at hAl
              have hpe : 2 ^ r - 1 + 1 = E := by have := HE.out.1; omega
              rw [hpe] at hAl
              obtain ⟨N, hN⟩ : ∃ N : Nat, N = E := ⟨E, rfl⟩
              have hNl : A.length = N := by omega
              have HA := Lib.hid hA
              have HAl := Lib.hid hNl
              have HSl := Lib.hid (show s2.used.length = N from by rw [HT.out.2.2.1, hpe]; omega)
              have HN := Lib.hid hN
              have hN1 : 1 ≤ N := by omega
              have hN2 : N ≤ 64 := by omega
              clear hnv hs2 hA hAl hNl hpe
              go_wp2_with fail
              refine (All_any p S4 s2 _ HA6.out.a).mono ?_
              rw [← HA.out]
              rintro e w7 ⟨v7, rfl, r1, r2, r3⟩
              have HR7 := Lib.hid r2
              have hk7 := HA6.out.kept r2
              have HA7 := Lib.hid hk7
              rw [List.length_map, HAl.out] at r1
              obtain ⟨a7, c7, rfl⟩ := row_form r1
              clear r1 r2 r3 hk7 hc8
              go_wp2_with fail
              refine (All_any p S4 s2 _ HA7.out.a).mono ?_
              rw [← HA.out]
              rintro e w8 ⟨v8, rfl, r1, r2, r3⟩
              have HR9 := Lib.hid r2
              have hk8 := HA7.out.kept r2
              have HA8 := Lib.hid hk8
              rw [List.length_map, HAl.out] at r1
              obtain ⟨g8, c8, _, e8, _, _, _⟩ := row_addr r1 (by omega)
              subst e8
              have HR8 := Lib.hid (And.intro r1 r3)
              clear r1 r2 r3 hk8
              have hp0 := HE.out.2.2.1
              go_wp2_with fail
              obtain ⟨IN, hIN⟩ : ∃ IN : Nat, (IN : Int) = (E : Int) - 1 := ⟨E - 1, by omega⟩
              rw [wrap_in E IN hIN hE2, wrap_small E hE2]
              simp only [Nat.add_sub_cancel_left]
              have hIN3 : IN ≤ 31 := by omega
              have HIN := Lib.hid hIN
              clear hp0 hIN
              go_loopw [22] (fun x22 wz => ∃ j : Nat, j ≤ IN ∧ x22 = .int .i64 j ∧ Fr (fun _ => False) w8 wz) (fun x22 _ => (IN - intOf x22).toNat)
              case atStart => exact ⟨0, by omega, rfl, Fr.refl _ _⟩
              case round =>
                obtain ⟨j, hj, rfl, hfr⟩ := hrel
                have HZ := Lib.hid hfr
                clear hfr
                by_cases hjI : j < IN
                · by_cases hpI : 2 * j + 1 < IN
                  · obtain ⟨p1, hp1⟩ : ∃ p1, p1 = 2 * j + 1 := ⟨_, rfl⟩
                    obtain ⟨q1, hq1⟩ : ∃ q1, q1 = 2 * j + 2 := ⟨_, rfl⟩
                    have hINn := HIN.out
                    obtain ⟨t1, t2, t3, x, t4, t5, t6, t7, t8⟩ := tree_slot true r j p1 q1 s2.used HT.out.2.2.2 (by rw [← HE.out.1]; omega) (by rw [if_neg (by have := HE.out.1; omega)]; exact hp1) (by rw [if_neg (by have := HE.out.1; omega)]; exact hq1)
                    rw [← HA.out] at t4 t7 t8
                    rw [HSl.out] at t1 t2 t3
                    obtain ⟨xi, hxi⟩ : ∃ xi, xi = A[j]?.getD 0 := ⟨_, rfl⟩
                    obtain ⟨xp, hxp⟩ : ∃ xp, xp = A[p1]?.getD 0 := ⟨_, rfl⟩
                    obtain ⟨xq, hxq⟩ : ∃ xq, xq = A[q1]?.getD 0 := ⟨_, rfl⟩
                    rw [← hxi] at t4
                    rw [← hxp] at t7
                    rw [← hxq] at t8
                    have HX := Lib.hid (And.intro t4 (And.intro t5 (And.intro t6 (And.intro t7 t8))))
                    have HCl := Lib.hid (show ∀ W, Fr (fun _ => False) w8 W → W.cell? ⟨g8, j, none⟩ = some (.int .i64 xi) ∧ W.cell? ⟨g8, p1, none⟩ = some (.int .i64 xp) ∧ W.cell? ⟨g8, q1, none⟩ = some (.int .i64 xq) from fun W hW => by
                      have h7 := hW.row HR8.out.1 (fun _ _ h => h)
                      rw [hxi, hxp, hxq]
                      exact ⟨row_int h7 t1, row_int h7 t2, row_int h7 t3⟩)
                    have hip : 2 * (j : Int) + 1 = (p1 : Int) := by omega
                    have hiq : 2 * (j : Int) + 2 = (q1 : Int) := by omega
                    have hpi2 : p1 < IN := by omega
                    clear t4 t5 t6 t7 t8 hxi hxp hxq hINn hp1 hq1
                    have hc := (HCl.out wr HZ.out).1
                    go_wp2_with fail
                    refine (Get_any p xi 0 S4 s2 _ (HA8.out.kept HZ.out).a).mono ?_
                    rw [HX.out.1, HX.out.2.1, HX.out.2.2.2.1]
                    rintro e w9 ⟨rfl, nd, hw9⟩
                    have HZ9 := Lib.hid (show Fr (fun _ => False) w8 w9 from by rw [hw9]; exact HZ.out.trans (Fr.drewN _ wr nd) (fun _ h => h) (fun _ _ h => h))
                    clear hw9 hc
                    have hc := (HCl.out w9 HZ9.out).1
                    go_wp2_with fail
                    refine (Get_any p xi 1 S4 s2 _ (HA8.out.kept HZ9.out).a).mono ?_
                    rw [HX.out.1, HX.out.2.2.1, HX.out.2.2.2.2]
                    rintro e w10 ⟨rfl, nd2, hw10⟩
                    have HZ10 := Lib.hid (show Fr (fun _ => False) w8 w10 from by rw [hw10]; exact HZ9.out.trans (Fr.drewN _ w9 nd2) (fun _ h => h) (fun _ _ h => h))
                    clear hw10 hc
                    have hcp := (HCl.out w10 HZ10.out).2.1
                    have hcq := (HCl.out w10 HZ10.out).2.2
                    go_wp2_with fail
                    go_roundw
                    case rel => exact ⟨j + 1, by omega, by go_num, HZ10.out⟩
                    case measure => simp [intOf]; omega
                  · obtain ⟨p0, hp0⟩ : ∃ p0, p0 = 2 * j + 1 := ⟨_, rfl⟩
                    obtain ⟨q0, hq0⟩ : ∃ q0, q0 = 2 * j + 2 := ⟨_, rfl⟩
                    have hINn := HIN.out
                    obtain ⟨t1, t2, t3, x, t4, t5, t6, t7, t8⟩ := tree_slot true r j IN IN s2.used HT.out.2.2.2 (by rw [← HE.out.1]; omega) (by rw [if_pos ⟨rfl, by have := HE.out.1; omega⟩]; have := HE.out.1; omega) (by rw [if_pos ⟨rfl, by have := HE.out.1; omega⟩]; have := HE.out.1; omega)
                    rw [← HA.out] at t4 t7 t8
                    rw [HSl.out] at t1 t2 t3
                    obtain ⟨xi, hxi⟩ : ∃ xi, xi = A[j]?.getD 0 := ⟨_, rfl⟩
                    obtain ⟨xp, hxp⟩ : ∃ xp, xp = A[IN]?.getD 0 := ⟨_, rfl⟩
                    rw [← hxi] at t4
                    rw [← hxp] at t7
                    rw [← hxp] at t8
                    have HX := Lib.hid (And.intro t4 (And.intro t5 (And.intro t6 (And.intro t7 t8))))
                    have HCl := Lib.hid (show ∀ W, Fr (fun _ => False) w8 W → W.cell? ⟨g8, j, none⟩ = some (.int .i64 xi) ∧ W.cell? ⟨g8, IN, none⟩ = some (.int .i64 xp) ∧ W.cell? ⟨g8, IN, none⟩ = some (.int .i64 xp) from fun W hW => by
                      have h7 := hW.row HR8.out.1 (fun _ _ h => h)
                      rw [hxi, hxp]
                      exact ⟨row_int h7 t1, row_int h7 t2, row_int h7 t3⟩)
                    have hip : 2 * (j : Int) + 1 = (p0 : Int) := by omega
                    have hiq : 2 * (j : Int) + 2 = (q0 : Int) := by omega
                    have hpi2 : IN ≤ p0 := by omega
                    clear t4 t5 t6 t7 t8 hxi hxp hINn hp0 hq0
                    have hc := (HCl.out wr HZ.out).1
                    go_wp2_with fail
                    refine (Get_any p xi 0 S4 s2 _ (HA8.out.kept HZ.out).a).mono ?_
                    rw [HX.out.1, HX.out.2.1, HX.out.2.2.2.1]
                    rintro e w9 ⟨rfl, nd, hw9⟩
                    have HZ9 := Lib.hid (show Fr (fun _ => False) w8 w9 from by rw [hw9]; exact HZ.out.trans (Fr.drewN _ wr nd) (fun _ h => h) (fun _ _ h => h))
                    clear hw9 hc
                    have hc := (HCl.out w9 HZ9.out).1
                    go_wp2_with fail
                    refine (Get_any p xi 1 S4 s2 _ (HA8.out.kept HZ9.out).a).mono ?_
                    rw [HX.out.1, HX.out.2.2.1, HX.out.2.2.2.2]
                    rintro e w10 ⟨rfl, nd2, hw10⟩
                    have HZ10 := Lib.hid (show Fr (fun _ => False) w8 w10 from by rw [hw10]; exact HZ9.out.trans (Fr.drewN _ w9 nd2) (fun _ h => h) (fun _ _ h => h))
                    clear hw10 hc
                    have hcp := (HCl.out w10 HZ10.out).2.1
                    have hcq := (HCl.out w10 HZ10.out).2.2
                    go_wp2_with fail
                    go_roundw
                    case rel => exact ⟨j + 1, by omega, by go_num, HZ10.out⟩
                    case measure => simp [intOf]; omega
                · go_wp2
                  go_ret
                  exact ⟨rfl, (((HF1.out.trans H6.out.1.fr (fun _ h => h) (fun _ _ h => h)).trans HR7.out (fun _ h => h) (fun _ _ h => h)).trans HR9.out (fun _ h => h) (fun _ _ h => h)).trans HZ.out (fun _ h => h) (fun _ _ h => h)⟩)
          · obtain ⟨gm, rfl⟩ : ∃ gm, gk = gm + 1 := ⟨gk - 1, by omega⟩
            obtain ⟨M, hM⟩ : ∃ M, M = 2 ^ gm := ⟨_, rfl⟩
            have hL : 2 ^ (gm + 1) = 2 * M := by rw [Nat.pow_succ, hM]; omega
            rw [hL] at hrow hlen hbt ⊢
            have hM1 : 1 ≤ M := by rw [hM]; exact Nat.one_le_two_pow
            have hpw : 2 ^ (gm + 1) ≤ E := by rw [HE.out.1]; exact Nat.pow_le_pow_right (by omega) (by omega)
            have hM2 : M ≤ 16 := by omega
            clear hpw
            obtain ⟨g, c, _, eg, _, _, _⟩ := row_addr hrow (by omega)
            simp only [Value.slice.injEq, true_and] at eg
            obtain ⟨rfl, rfl⟩ := eg
            have HLev := Lib.hid (And.intro hrow (show ∀ k, (Value.slice (some ⟨g, 0, none⟩) (2 * M) cl).ownBlock = some k → ¬ S3 k from fun k hk => (HW.out.far k hk).1))
            have HFx := Lib.hid (And.intro hlen (And.intro hbt (And.intro hbm hM)))
            obtain ⟨L, hLd⟩ : ∃ L, L = 2 * M := ⟨_, rfl⟩
            rw [← hLd] at HLev HFx ⊢
            have hLM := Lib.hid hLd
            have hL1 : (1 : Int) < (L : Int) := by omega
            obtain ⟨wr0, hwr0⟩ : ∃ wr0, wr0 = wr := ⟨_, rfl⟩
            have HR0 := Lib.hid (show T1 w2 wr0 S3 wr p S3 (tstate (tup U lev 0).1) (.slice none 0 0) (tup U lev 0).2 from by rw [hwr0]; exact HW.out.rebase)
            have HLev := Lib.hid (show wr0.ownsRow 0 2 1 (.slice (some ⟨g, 0, none⟩) L cl) L (lev.map (Value.int .i64)) ∧ ∀ k, (Value.slice (some ⟨g, 0, none⟩) L cl).ownBlock = some k → ¬ S3 k from by rw [hwr0]; exact HLev.out)
            clear hrow hlen hbt hbm hM hL hg hLd hwr0
            go_wp2_with fail
            go_loopw [14, 15] (fun u x15 wz => ∃ (k j : Nat) (S' : Nat → Prop), k ≤ M ∧ j = 2 * k ∧ x15 = .int .i64 j ∧ T1 w2 wr0 S3 wz p S' (tstate (tup U lev k).1) u (tup U lev k).2) (fun _ x15 _ => (L - intOf x15).toNat)
            case atStart => exact ⟨0, 0, S3, by omega, rfl, rfl, HR0.out⟩
            case round =>
              obtain ⟨k, j, S4, hk, hj, rfl, ht⟩ := hrel
              have HQ := Lib.hid ht; clear ht
              have Hj := Lib.hid hj
              have hru := HQ.out.row
              rw [tup_len] at hru
              obtain ⟨ax, cx, rfl⟩ := row_form hru
              clear hru
              have hLM2 := hLM.out
              by_cases hkM : k < M
              · have hlv := HQ.out.fb.row HLev.out.1 HLev.out.2
                have htt := tup_tot U lev k
                have hbt := HFx.out.2.1
                have hmk := make_room (tstate (tup U lev k).1) (-2) 2 (by omega) (by omega) (by show _ ≤ ((16384 : Nat) : Int) - ((tot (tup U lev k).1 : Nat) : Int); omega)
                have HMk := Lib.hid hmk
                have hjL : j < L := by omega
                have hj1L : j + 1 < L := by omega
                obtain ⟨ad, had⟩ : ∃ ad : Int, ad = ((tot (tup U lev k).1 : Nat) : Int) + 8 := ⟨_, rfl⟩
                have Had := Lib.hid had
                obtain ⟨xa, hxa⟩ : ∃ xa, xa = lev[j]?.getD 0 := ⟨_, rfl⟩
                obtain ⟨xb, hxb⟩ : ∃ xb, xb = lev[j + 1]?.getD 0 := ⟨_, rfl⟩
                have hxaI : I64 xa := by
                  have h7 : j < lev.length := by rw [HFx.out.1]; omega
                  rw [List.getElem?_eq_getElem h7, Option.getD_some] at hxa
                  have h8 := HFx.out.2.2.1 xa (by rw [hxa]; exact List.getElem_mem h7)
                  unfold I64; omega
                have hxbI : I64 xb := by
                  have h7 : j + 1 < lev.length := by rw [HFx.out.1]; omega
                  rw [List.getElem?_eq_getElem h7, Option.getD_some] at hxb
                  have h8 := HFx.out.2.2.1 xb (by rw [hxb]; exact List.getElem_mem h7)
                  unfold I64; omega
                have hp1 := put_last (tup U lev k).1 (-2) [0, 0] [] (fun _ => none) 16384 0 xa (by omega) (by simp)
                have hp2 := put_last (tup U lev k).1 (-2) [xa, 0] [] (fun _ => none) 16384 1 xb (by omega) (by simp)
                rw [← had] at hp1 hp2
                have HP := Lib.hid (And.intro hp1 (And.intro hp2 (And.intro hxaI hxbI)))
                have HXj := Lib.hid (And.intro hxa hxb)
                have HLv := Lib.hid hlv
                clear hmk hxa hxb hxaI hxbI hp1 hp2 had hlv htt hbt hLM2 hj
                go_wp2_with fail
                refine (Make_any p (-2) 2 S4 _ _ HQ.out.a (by unfold I64; omega)).mono ?_
                rw [HMk.out.1, HMk.out.2.1, HMk.out.2.2, show ((tot (tstate (tup U lev k).1).used : Nat) : Int) + 8 = ad from Had.out.symm]
                rintro e w7 ⟨rfl, q1⟩
                obtain ⟨S5, h7⟩ := HQ.out.turn q1
                have H7 := Lib.hid h7
                have hlv7 := h7.fb.row HLev.out.1 HLev.out.2
                have hca := row_int hlv7 hjL
                rw [← HXj.out.1] at hca
                clear q1 h7 hlv7
                go_wp2_with fail
                obtain ⟨e1, he1⟩ : ∃ e1, e1 = slotE (findOb 0 (AS.used ⟨(tup U lev k).1 ++ [⟨-2, [0, 0]⟩], [], fun _ => none, 16384⟩) ad) 0 := ⟨_, rfl⟩
                refine (Put_any p ad 0 xa S5 _ _ H7.out.a HP.out.2.2.1).mono ?_
                rw [show slotE (findOb 0 (AS.used { tstate (tup U lev k).1 with used := (tstate (tup U lev k).1).used ++ [⟨-2, List.replicate (2 : Int).toNat 0⟩] }) ad) 0 = e1 from he1.symm]
                clear he1
                rintro e w8 ⟨rfl, q1, q2⟩
                have h8 := H7.out.put q1 q2
                have H8 := Lib.hid (show T1 w2 wr0 S3 w8 p S5 ⟨(tup U lev k).1 ++ [⟨-2, [xa, 0]⟩], [], fun _ => none, 16384⟩ (.slice ax k cx) (tup U lev k).2 from by
                  have h9 : (⟨(tup U lev k).1 ++ [⟨-2, [0, 0]⟩], [], fun _ => none, 16384⟩ : AS).put ad 0 xa = _ := HP.out.1
                  rw [show ([xa, 0] : List Int) = [0, 0].set (0 : Int).toNat xa from rfl, ← h9]; exact h8)
                have hlv8 := H8.out.fb.row HLev.out.1 HLev.out.2
                obtain ⟨k1, hk1⟩ : ∃ k1, k1 = j + 1 := ⟨_, rfl⟩
                have hidx : (j : Int) + 1 = (k1 : Int) := by omega
                have hk1L : k1 < L := by omega
                have hL33 : L ≤ 32 := by have := hLM.out; omega
                have hcb := row_int hlv8 hk1L
                rw [show lev[k1]?.getD 0 = xb from by rw [hk1]; exact HXj.out.2.symm] at hcb
                clear q1 q2 h8 hlv8 hca hj1L hk1
                go_wp2_with fail
                clear hidx
                obtain ⟨e2, he2⟩ : ∃ e2, e2 = slotE (findOb 0 (AS.used ⟨(tup U lev k).1 ++ [⟨-2, [xa, 0]⟩], [], fun _ => none, 16384⟩) ad) 1 := ⟨_, rfl⟩
                refine (Put_any p ad 1 xb S5 _ _ H8.out.a HP.out.2.2.2).mono ?_
                rw [← he2]
                clear he2
                rintro e w9 ⟨rfl, q1, q2⟩
                have h9 := H8.out.put q1 q2
                have H9 := Lib.hid (show T1 w2 wr0 S3 w9 p S5 ⟨(tup U lev k).1 ++ [⟨-2, [xa, xb]⟩], [], fun _ => none, 16384⟩ (.slice ax k cx) (tup U lev k).2 from by
                  have h10 : (⟨(tup U lev k).1 ++ [⟨-2, [xa, 0]⟩], [], fun _ => none, 16384⟩ : AS).put ad 1 xb = _ := HP.out.2.1
                  rw [show ([xa, xb] : List Int) = [xa, 0].set (1 : Int).toNat xb from rfl, ← h10]; exact h9)
                have hr9 := H9.out.row
                rw [tup_len] at hr9
                have Hr9 := Lib.hid hr9
                clear q1 q2 h9 hr9 hcb
                go_wp2_with (first | (at_builtin; refine wpList_append_own_at _ rfl _ _ 38 rfl 0 2 i2 (.int .i64 0) 1 8 und38 hi2 hz2 hs2 hb2 rfl (by decide) _ _ _ rfl (Hr9.out.alloc _) ⟨w9.heap.size, 0, none⟩ 1 1 [.int .i64 ad] rfl rfl (fun j u hu => cell_one_new _ _ _ j u hu) (by intro u hu; simp at hu; subst hu; rfl) (by unfold maxLen; omega) (by omega) (Nat.zero_le _) ?_))
                intro v10 w10 hown hgr _ hloc
                have H10 := Lib.hid (show T1 w2 wr0 S3 w10 p S5 (tstate (tup U lev (k + 1)).1) v10 (tup U lev (k + 1)).2 from by
                  have h11 := H9.out.appended (x := ad) (by rw [tup_len]; exact hown) hgr (by simpa using hloc)
                  rw [Had.out, HXj.out.1, HXj.out.2, Hj.out] at h11
                  exact h11)
                clear hown hgr hloc
                have hj2 : j + 2 ≤ L := by have := hLM.out; have := Hj.out; omega
                go_wp2
                go_roundw
                case rel => exact ⟨k + 1, j + 2, S5, by omega, by have := Hj.out; omega, by go_num, H10.out⟩
                case measure => simp [intOf]; omega
              · have hjLe : ¬ j < L := by omega
                have HN := Lib.hid (show T1 w2 wr0 S3 wr p S4 (tstate (tbuild true d (r + 1)).1) (.slice ax k cx) (tbuild true d (r + 1)).2 from by
                  show T1 w2 wr0 S3 wr p S4 (tstate (tup (tbuild true d r).1 (tbuild true d r).2 (2 ^ (d - r - 1))).1) (.slice ax k cx) (tup (tbuild true d r).1 (tbuild true d r).2 (2 ^ (d - r - 1))).2
                  rw [← HUl.out.1, ← HUl.out.2, show d - r - 1 = gm from by omega, ← HFx.out.2.2.2, show M = k from by omega]
                  exact HQ.out)
                clear hj hLM2
                go_wp2
                go_roundg gm
                case measure => omega
                case rel => exact ⟨r + 1, wr0, S3, S4, by omega, HN.out⟩
      | false =>
        have him : i = E := by omega
        have HS0 := Lib.hid (show T1 w2 w5 S1 wr p S2 (tstate (tbuild false d 0).1) (.slice au i cu) (tbuild false d 0).2 from by
          show T1 w2 w5 S1 wr p S2 (tstate (tlow false (2 ^ d)).1) (.slice au i cu) (tlow false (2 ^ d)).2
          rw [← HE.out.1, ← him]; exact HW.out)
        clear him Hrow
        go_wp2_with fail
        clear hwE hp0
        rw [Nat.add_sub_cancel_left]
        go_loopg [9] d (fun gk u wz => ∃ (r : Nat) (wb : World) (B S' : Nat → Prop), r + gk = d ∧ T1 w2 wb B wz p S' (tstate (tbuild false d r).1) u (tbuild false d r).2)
        case atStart => exact ⟨0, w5, S1, S2, by omega, HS0.out⟩
        case round =>
          clear HS0 HW
          obtain ⟨r, wb, B, S3, hrd, ht⟩ := hrel
          have HW := Lib.hid ht; clear ht
          have hlen := tbuild_len false d r (by omega)
          have hbt := tbuild_tot false d r (by omega)
          have hbm := tbuild_mem false d (by rw [← HE.out.1]; exact hE2) r (by omega)
          rw [show d - r = gk from by omega] at hlen hbt
          rw [← HE.out.1] at hbt
          obtain ⟨U, hU⟩ : ∃ U, U = (tbuild false d r).1 := ⟨_, rfl⟩
          obtain ⟨lev, hlev⟩ : ∃ lev, lev = (tbuild false d r).2 := ⟨_, rfl⟩
          rw [← hU, ← hlev] at HW
          rw [← hlev] at hlen hbm
          rw [← hU] at hbt
          have HUl := Lib.hid (And.intro hU hlev)
          have hrow := HW.out.row
          rw [hlen] at hrow
          obtain ⟨al, cl, rfl⟩ := row_form hrow
          clear hU hlev
          by_cases hg : gk = 0
          · subst hg
            obtain rfl : r = d := by omega
            rw [show (2 : Nat) ^ 0 = 1 from rfl] at hrow hlen hbt ⊢
            obtain ⟨root, hf1, hf2, hf3, hf4, hf5⟩ := tree_facts false r HE.out.2.1
            rw [← HUl.out.1] at hf2 hf3 hf4 hf5
            rw [← HUl.out.2] at hf1
            rw [if_neg (by decide)] at hf4
            subst hf1
            have HT := Lib.hid (And.intro hf2 (And.intro hf3 (And.intro hf4 hf5)))
            obtain ⟨g, c, _, eg, _, _, _⟩ := row_addr hrow (by omega)
            simp only [Value.slice.injEq, true_and] at eg
            obtain ⟨rfl, rfl⟩ := eg
            have hcf := row_int hrow (j := 0) (by omega)
            simp only [List.getElem?_cons_zero, Option.getD_some] at hcf
            have HCf := Lib.hid (show (wr.drewN 1).cell? ⟨g, 0, none⟩ = some (.int .i64 root) from hcf)
            have HgS := Lib.hid (show ¬ S3 g from (HW.out.far g rfl).1)
            have hrl := World.ownsRow_lit (base := 0) (e := 2) (size := 1) wr #[.int .i64 root] 1 (Nat.zero_le _) (by unfold maxLen; omega) rfl
            have HRl := Lib.hid (show ((wr.alloc (.cells #[.int .i64 root] 2)).drewN 1).ownsRow 0 2 1 (.slice (some ⟨wr.heap.size, 0, none⟩) 1 1) [root].length ([root].map (Value.int .i64)) from hrl)
            have HWl := Lib.hid (HW.out.kept ((Fr.alloc (fun _ => False) wr (.cells #[.int .i64 root] 2)).trans (Fr.drewN _ _ 1) (fun _ h => h) (fun _ _ h => h)))
            have HfS := Lib.hid (show ∀ k, (Value.slice (some ⟨wr.heap.size, 0, none⟩) 1 1).ownBlock = some k → ¬ S3 k from fun k hk e => by
              have h7 : wr.heap.size = k := Option.some.inj hk
              have h8 := HW.out.a.lt e
              omega)
            clear hf2 hf3 hf4 hf5 hrow hlen hbt hbm hcf hrl
            go_wp2_with fail
            go_region_held3 (fun w' => w'.cell? ⟨g, 0, none⟩ = some (.int .i64 root))
              (first | exact HCf.out | exact (Fr.alloc (fun _ => False) _ _).cell HCf.out id | exact HC6.out)
              (first
                | (go_at_call 48; refine (all_any _).mono ?_; rintro e w5 ⟨rfl, rfl⟩)
                | (go_at_call 47; refine (Collect_ok p none 0 0 _ [root] S3 _ [] (fun _ => False) [] _ HWl.out.a HRl.out (by intro a ha; simp at ha; subst ha; exact .inr HT.out.1) (TabIs.none _) (fun _ h => h.elim) HfS.out (by simp)).mono ?_; rintro e w6 ⟨nv, rfl, q1, q2, S4, q3, q4, q5, q6⟩; have HC6 := Lib.hid (q4.cell (show ((wr.alloc (.cells #[.int .i64 root] 2)).drewN 1).cell? ⟨g, 0, none⟩ = some (.int .i64 root) from (Fr.alloc (fun _ => False) _ _).cell HCf.out id) HgS.out); have H6 := Lib.hid (And.intro (HWl.out.turned q3 q4 q5) q1); clear q1 q2 q3 q4 q5 q6))
            all_goals (
              have hnv := H6.out.2
              rw [HT.out.2.1] at hnv
              obtain ⟨an, cn, rfl⟩ := row_form hnv
              obtain ⟨gn, dn, _, en, _, _, _⟩ := row_addr hnv (by simp)
              simp only [Value.slice.injEq, true_and] at en
              obtain ⟨rfl, rfl⟩ := en
              have hc8 := row_int hnv (j := 0) (by simp)
              simp only [List.getElem?_cons_zero, Option.getD_some, List.length_cons, List.length_nil] at hc8 ⊢
              obtain ⟨s2, hs2⟩ : ∃ s2, s2 = collectS (tstate U) [] [root] := ⟨_, rfl⟩
              rw [← hs2] at H6 HT
              have HA6 := Lib.hid H6.out.1
              obtain ⟨A, hA⟩ : ∃ A, A = addrs 0 s2.used := ⟨_, rfl⟩
              have hAl : A.length = s2.used.length := by rw [hA, addrs_length]
              rw [HT.out.2.2.1] at hAl
              have hpe : 2 ^ (r + 1) = 2 * E := by rw [Nat.pow_succ, HE.out.1]; omega
              rw [hpe] at hAl
              obtain ⟨N, hN⟩ : ∃ N : Nat, (N : Int) = 2 * (E : Int) - 1 := ⟨2 * E - 1, by omega⟩
              have hNl : A.length = N := by omega
              have HA := Lib.hid hA
              have HAl := Lib.hid hNl
              have HSl := Lib.hid (show s2.used.length = N from by rw [HT.out.2.2.1, hpe]; omega)
              have HN := Lib.hid hN
              have hN1 : 1 ≤ N := by omega
              have hN2 : N ≤ 64 := by omega
              clear hnv hs2 hA hAl hNl hpe
              go_wp2_with fail
              refine (All_any p S4 s2 _ HA6.out.a).mono ?_
              rw [← HA.out]
              rintro e w7 ⟨v7, rfl, r1, r2, r3⟩
              have HR7 := Lib.hid r2
              have hk7 := HA6.out.kept r2
              have HA7 := Lib.hid hk7
              rw [List.length_map, HAl.out] at r1
              obtain ⟨a7, c7, rfl⟩ := row_form r1
              clear r1 r2 r3 hk7 hc8
              go_wp2_with fail
              refine (All_any p S4 s2 _ HA7.out.a).mono ?_
              rw [← HA.out]
              rintro e w8 ⟨v8, rfl, r1, r2, r3⟩
              have HR9 := Lib.hid r2
              have hk8 := HA7.out.kept r2
              have HA8 := Lib.hid hk8
              rw [List.length_map, HAl.out] at r1
              obtain ⟨g8, c8, _, e8, _, _, _⟩ := row_addr r1 (by omega)
              subst e8
              have HR8 := Lib.hid (And.intro r1 r3)
              clear r1 r2 r3 hk8
              have hp0 := HE.out.2.2.1
              go_wp2_with fail
              obtain ⟨IN, hIN⟩ : ∃ IN : Nat, (IN : Int) = (E : Int) - 1 := ⟨E - 1, by omega⟩
              rw [wrap_in E IN hIN hE2, wrap_small E hE2]
              simp only [Nat.add_sub_cancel_left]
              have hIN3 : IN ≤ 31 := by omega
              have HIN := Lib.hid hIN
              clear hp0 hIN
              go_loopw [22] (fun x22 wz => ∃ j : Nat, j ≤ IN ∧ x22 = .int .i64 j ∧ Fr (fun _ => False) w8 wz) (fun x22 _ => (IN - intOf x22).toNat)
              case atStart => exact ⟨0, by omega, rfl, Fr.refl _ _⟩
              case round =>
                obtain ⟨j, hj, rfl, hfr⟩ := hrel
                have HZ := Lib.hid hfr
                clear hfr
                by_cases hjI : j < IN
                · obtain ⟨p1, hp1⟩ : ∃ p1, p1 = 2 * j + 1 := ⟨_, rfl⟩
                  obtain ⟨q1, hq1⟩ : ∃ q1, q1 = 2 * j + 2 := ⟨_, rfl⟩
                  have hINn := HIN.out
                  obtain ⟨t1, t2, t3, x, t4, t5, t6, t7, t8⟩ := tree_slot false r j p1 q1 s2.used HT.out.2.2.2 (by rw [← HE.out.1]; omega) (by rw [if_neg (by simp)]; exact hp1) (by rw [if_neg (by simp)]; exact hq1)
                  rw [← HA.out] at t4 t7 t8
                  rw [HSl.out] at t1 t2 t3
                  obtain ⟨xi, hxi⟩ : ∃ xi, xi = A[j]?.getD 0 := ⟨_, rfl⟩
                  obtain ⟨xp, hxp⟩ : ∃ xp, xp = A[p1]?.getD 0 := ⟨_, rfl⟩
                  obtain ⟨xq, hxq⟩ : ∃ xq, xq = A[q1]?.getD 0 := ⟨_, rfl⟩
                  rw [← hxi] at t4
                  rw [← hxp] at t7
                  rw [← hxq] at t8
                  have HX := Lib.hid (And.intro t4 (And.intro t5 (And.intro t6 (And.intro t7 t8))))
                  have HCl := Lib.hid (show ∀ W, Fr (fun _ => False) w8 W → W.cell? ⟨g8, j, none⟩ = some (.int .i64 xi) ∧ W.cell? ⟨g8, p1, none⟩ = some (.int .i64 xp) ∧ W.cell? ⟨g8, q1, none⟩ = some (.int .i64 xq) from fun W hW => by
                    have h7 := hW.row HR8.out.1 (fun _ _ h => h)
                    rw [hxi, hxp, hxq]
                    exact ⟨row_int h7 t1, row_int h7 t2, row_int h7 t3⟩)
                  have hip : 2 * (j : Int) + 1 = (p1 : Int) := by omega
                  have hiq : 2 * (j : Int) + 2 = (q1 : Int) := by omega
                  clear t4 t5 t6 t7 t8 hxi hxp hxq hINn hp1 hq1
                  have hc := (HCl.out wr HZ.out).1
                  go_wp2_with fail
                  refine (Get_any p xi 0 S4 s2 _ (HA8.out.kept HZ.out).a).mono ?_
                  rw [HX.out.1, HX.out.2.1, HX.out.2.2.2.1]
                  rintro e w9 ⟨rfl, nd, hw9⟩
                  have HZ9 := Lib.hid (show Fr (fun _ => False) w8 w9 from by rw [hw9]; exact HZ.out.trans (Fr.drewN _ wr nd) (fun _ h => h) (fun _ _ h => h))
                  clear hw9 hc
                  have hc := (HCl.out w9 HZ9.out).1
                  go_wp2_with fail
                  refine (Get_any p xi 1 S4 s2 _ (HA8.out.kept HZ9.out).a).mono ?_
                  rw [HX.out.1, HX.out.2.2.1, HX.out.2.2.2.2]
                  rintro e w10 ⟨rfl, nd2, hw10⟩
                  have HZ10 := Lib.hid (show Fr (fun _ => False) w8 w10 from by rw [hw10]; exact HZ9.out.trans (Fr.drewN _ w9 nd2) (fun _ h => h) (fun _ _ h => h))
                  clear hw10 hc
                  have hcp := (HCl.out w10 HZ10.out).2.1
                  have hcq := (HCl.out w10 HZ10.out).2.2
                  go_wp2_with fail
                  go_roundw
                  case rel => exact ⟨j + 1, by omega, by go_num, HZ10.out⟩
                  case measure => simp [intOf]; omega
                · go_wp2
                  go_ret
                  exact ⟨rfl, (((HF1.out.trans H6.out.1.fr (fun _ h => h) (fun _ _ h => h)).trans HR7.out (fun _ h => h) (fun _ _ h => h)).trans HR9.out (fun _ h => h) (fun _ _ h => h)).trans HZ.out (fun _ h => h) (fun _ _ h => h)⟩)
          · obtain ⟨gm, rfl⟩ : ∃ gm, gk = gm + 1 := ⟨gk - 1, by omega⟩
            obtain ⟨M, hM⟩ : ∃ M, M = 2 ^ gm := ⟨_, rfl⟩
            have hL : 2 ^ (gm + 1) = 2 * M := by rw [Nat.pow_succ, hM]; omega
            rw [hL] at hrow hlen hbt ⊢
            have hM1 : 1 ≤ M := by rw [hM]; exact Nat.one_le_two_pow
            have hpw : 2 ^ (gm + 1) ≤ E := by rw [HE.out.1]; exact Nat.pow_le_pow_right (by omega) (by omega)
            have hM2 : M ≤ 16 := by omega
            clear hpw
            obtain ⟨g, c, _, eg, _, _, _⟩ := row_addr hrow (by omega)
            simp only [Value.slice.injEq, true_and] at eg
            obtain ⟨rfl, rfl⟩ := eg
            have HLev := Lib.hid (And.intro hrow (show ∀ k, (Value.slice (some ⟨g, 0, none⟩) (2 * M) cl).ownBlock = some k → ¬ S3 k from fun k hk => (HW.out.far k hk).1))
            have HFx := Lib.hid (And.intro hlen (And.intro hbt (And.intro hbm hM)))
            obtain ⟨L, hLd⟩ : ∃ L, L = 2 * M := ⟨_, rfl⟩
            rw [← hLd] at HLev HFx ⊢
            have hLM := Lib.hid hLd
            have hL1 : (1 : Int) < (L : Int) := by omega
            obtain ⟨wr0, hwr0⟩ : ∃ wr0, wr0 = wr := ⟨_, rfl⟩
            have HR0 := Lib.hid (show T1 w2 wr0 S3 wr p S3 (tstate (tup U lev 0).1) (.slice none 0 0) (tup U lev 0).2 from by rw [hwr0]; exact HW.out.rebase)
            have HLev := Lib.hid (show wr0.ownsRow 0 2 1 (.slice (some ⟨g, 0, none⟩) L cl) L (lev.map (Value.int .i64)) ∧ ∀ k, (Value.slice (some ⟨g, 0, none⟩) L cl).ownBlock = some k → ¬ S3 k from by rw [hwr0]; exact HLev.out)
            clear hrow hlen hbt hbm hM hL hg hLd hwr0
            go_wp2_with fail
            go_loopw [14, 15] (fun u x15 wz => ∃ (k j : Nat) (S' : Nat → Prop), k ≤ M ∧ j = 2 * k ∧ x15 = .int .i64 j ∧ T1 w2 wr0 S3 wz p S' (tstate (tup U lev k).1) u (tup U lev k).2) (fun _ x15 _ => (L - intOf x15).toNat)
            case atStart => exact ⟨0, 0, S3, by omega, rfl, rfl, HR0.out⟩
            case round =>
              obtain ⟨k, j, S4, hk, hj, rfl, ht⟩ := hrel
              have HQ := Lib.hid ht; clear ht
              have Hj := Lib.hid hj
              have hru := HQ.out.row
              rw [tup_len] at hru
              obtain ⟨ax, cx, rfl⟩ := row_form hru
              clear hru
              have hLM2 := hLM.out
              by_cases hkM : k < M
              · have hlv := HQ.out.fb.row HLev.out.1 HLev.out.2
                have htt := tup_tot U lev k
                have hbt := HFx.out.2.1
                have hmk := make_room (tstate (tup U lev k).1) (-2) 2 (by omega) (by omega) (by show _ ≤ ((16384 : Nat) : Int) - ((tot (tup U lev k).1 : Nat) : Int); omega)
                have HMk := Lib.hid hmk
                have hjL : j < L := by omega
                have hj1L : j + 1 < L := by omega
                obtain ⟨ad, had⟩ : ∃ ad : Int, ad = ((tot (tup U lev k).1 : Nat) : Int) + 8 := ⟨_, rfl⟩
                have Had := Lib.hid had
                obtain ⟨xa, hxa⟩ : ∃ xa, xa = lev[j]?.getD 0 := ⟨_, rfl⟩
                obtain ⟨xb, hxb⟩ : ∃ xb, xb = lev[j + 1]?.getD 0 := ⟨_, rfl⟩
                have hxaI : I64 xa := by
                  have h7 : j < lev.length := by rw [HFx.out.1]; omega
                  rw [List.getElem?_eq_getElem h7, Option.getD_some] at hxa
                  have h8 := HFx.out.2.2.1 xa (by rw [hxa]; exact List.getElem_mem h7)
                  unfold I64; omega
                have hxbI : I64 xb := by
                  have h7 : j + 1 < lev.length := by rw [HFx.out.1]; omega
                  rw [List.getElem?_eq_getElem h7, Option.getD_some] at hxb
                  have h8 := HFx.out.2.2.1 xb (by rw [hxb]; exact List.getElem_mem h7)
                  unfold I64; omega
                have hp1 := put_last (tup U lev k).1 (-2) [0, 0] [] (fun _ => none) 16384 0 xa (by omega) (by simp)
                have hp2 := put_last (tup U lev k).1 (-2) [xa, 0] [] (fun _ => none) 16384 1 xb (by omega) (by simp)
                rw [← had] at hp1 hp2
                have HP := Lib.hid (And.intro hp1 (And.intro hp2 (And.intro hxaI hxbI)))
                have HXj := Lib.hid (And.intro hxa hxb)
                have HLv := Lib.hid hlv
                clear hmk hxa hxb hxaI hxbI hp1 hp2 had hlv htt hbt hLM2 hj
                go_wp2_with fail
                refine (Make_any p (-2) 2 S4 _ _ HQ.out.a (by unfold I64; omega)).mono ?_
                rw [HMk.out.1, HMk.out.2.1, HMk.out.2.2, show ((tot (tstate (tup U lev k).1).used : Nat) : Int) + 8 = ad from Had.out.symm]
                rintro e w7 ⟨rfl, q1⟩
                obtain ⟨S5, h7⟩ := HQ.out.turn q1
                have H7 := Lib.hid h7
                have hlv7 := h7.fb.row HLev.out.1 HLev.out.2
                have hca := row_int hlv7 hjL
                rw [← HXj.out.1] at hca
                clear q1 h7 hlv7
                go_wp2_with fail
                obtain ⟨e1, he1⟩ : ∃ e1, e1 = slotE (findOb 0 (AS.used ⟨(tup U lev k).1 ++ [⟨-2, [0, 0]⟩], [], fun _ => none, 16384⟩) ad) 0 := ⟨_, rfl⟩
                refine (Put_any p ad 0 xa S5 _ _ H7.out.a HP.out.2.2.1).mono ?_
                rw [show slotE (findOb 0 (AS.used { tstate (tup U lev k).1 with used := (tstate (tup U lev k).1).used ++ [⟨-2, List.replicate (2 : Int).toNat 0⟩] }) ad) 0 = e1 from he1.symm]
                clear he1
                rintro e w8 ⟨rfl, q1, q2⟩
                have h8 := H7.out.put q1 q2
                have H8 := Lib.hid (show T1 w2 wr0 S3 w8 p S5 ⟨(tup U lev k).1 ++ [⟨-2, [xa, 0]⟩], [], fun _ => none, 16384⟩ (.slice ax k cx) (tup U lev k).2 from by
                  have h9 : (⟨(tup U lev k).1 ++ [⟨-2, [0, 0]⟩], [], fun _ => none, 16384⟩ : AS).put ad 0 xa = _ := HP.out.1
                  rw [show ([xa, 0] : List Int) = [0, 0].set (0 : Int).toNat xa from rfl, ← h9]; exact h8)
                have hlv8 := H8.out.fb.row HLev.out.1 HLev.out.2
                obtain ⟨k1, hk1⟩ : ∃ k1, k1 = j + 1 := ⟨_, rfl⟩
                have hidx : (j : Int) + 1 = (k1 : Int) := by omega
                have hk1L : k1 < L := by omega
                have hL33 : L ≤ 32 := by have := hLM.out; omega
                have hcb := row_int hlv8 hk1L
                rw [show lev[k1]?.getD 0 = xb from by rw [hk1]; exact HXj.out.2.symm] at hcb
                clear q1 q2 h8 hlv8 hca hj1L hk1
                go_wp2_with fail
                clear hidx
                obtain ⟨e2, he2⟩ : ∃ e2, e2 = slotE (findOb 0 (AS.used ⟨(tup U lev k).1 ++ [⟨-2, [xa, 0]⟩], [], fun _ => none, 16384⟩) ad) 1 := ⟨_, rfl⟩
                refine (Put_any p ad 1 xb S5 _ _ H8.out.a HP.out.2.2.2).mono ?_
                rw [← he2]
                clear he2
                rintro e w9 ⟨rfl, q1, q2⟩
                have h9 := H8.out.put q1 q2
                have H9 := Lib.hid (show T1 w2 wr0 S3 w9 p S5 ⟨(tup U lev k).1 ++ [⟨-2, [xa, xb]⟩], [], fun _ => none, 16384⟩ (.slice ax k cx) (tup U lev k).2 from by
                  have h10 : (⟨(tup U lev k).1 ++ [⟨-2, [xa, 0]⟩], [], fun _ => none, 16384⟩ : AS).put ad 1 xb = _ := HP.out.2.1
                  rw [show ([xa, xb] : List Int) = [xa, 0].set (1 : Int).toNat xb from rfl, ← h10]; exact h9)
                have hr9 := H9.out.row
                rw [tup_len] at hr9
                have Hr9 := Lib.hid hr9
                clear q1 q2 h9 hr9 hcb
                go_wp2_with (first | (at_builtin; refine wpList_append_own_at _ rfl _ _ 38 rfl 0 2 i2 (.int .i64 0) 1 8 und38 hi2 hz2 hs2 hb2 rfl (by decide) _ _ _ rfl (Hr9.out.alloc _) ⟨w9.heap.size, 0, none⟩ 1 1 [.int .i64 ad] rfl rfl (fun j u hu => cell_one_new _ _ _ j u hu) (by intro u hu; simp at hu; subst hu; rfl) (by unfold maxLen; omega) (by omega) (Nat.zero_le _) ?_))
                intro v10 w10 hown hgr _ hloc
                have H10 := Lib.hid (show T1 w2 wr0 S3 w10 p S5 (tstate (tup U lev (k + 1)).1) v10 (tup U lev (k + 1)).2 from by
                  have h11 := H9.out.appended (x := ad) (by rw [tup_len]; exact hown) hgr (by simpa using hloc)
                  rw [Had.out, HXj.out.1, HXj.out.2, Hj.out] at h11
                  exact h11)
                clear hown hgr hloc
                have hj2 : j + 2 ≤ L := by have := hLM.out; have := Hj.out; omega
                go_wp2
                go_roundw
                case rel => exact ⟨k + 1, j + 2, S5, by omega, by have := Hj.out; omega, by go_num, H10.out⟩
                case measure => simp [intOf]; omega
              · have hjLe : ¬ j < L := by omega
                have HN := Lib.hid (show T1 w2 wr0 S3 wr p S4 (tstate (tbuild false d (r + 1)).1) (.slice ax k cx) (tbuild false d (r + 1)).2 from by
                  show T1 w2 wr0 S3 wr p S4 (tstate (tup (tbuild false d r).1 (tbuild false d r).2 (2 ^ (d - r - 1))).1) (.slice ax k cx) (tup (tbuild false d r).1 (tbuild false d r).2 (2 ^ (d - r - 1))).2
                  rw [← HUl.out.1, ← HUl.out.2, show d - r - 1 = gm from by omega, ← HFx.out.2.2.2, show M = k from by omega]
                  exact HQ.out)
                clear hj hLM2
                go_wp2
                go_roundg gm
                case measure => omega
                case rel => exact ⟨r + 1, wr0, S3, S4, by omega, HN.out⟩
end Go.Proofs.Ytniifefmjdjebaa
