/- The document's Collect: the state that its walk keeps; plain facts. · Walks: the document's Collect, from a root that is none; which states are good. · Walks: the document's Collect, when it may. -/
import Derived.Test.YtniifefmjdjebaaKJ
import Derived.Test.YtniifefmjdjebaaKH
namespace Go.Proofs.Ytniifefmjdjebaa
open Go.RowKit
set_option linter.unusedVariables false
set_option linter.unusedSimpArgs false
structure Rx (w0 w : World) (R0 : Nat → Prop) (q : Nat) (R : Nat → Prop) (t : AS) (L : List KRow) : Prop where
  ref : IsRef w q R t
  fr : Fr R0 w0 w
  sub : ∀ k, R k → R0 k ∨ w0.heap.size ≤ k
  rows : ∀ r ∈ L, w.ownsRow 0 r.2.1 1 r.1 r.2.2.length r.2.2 ∧ ∀ k, r.1.ownBlock = some k → ¬ R k
  apart : L.Pairwise Apart2
section
variable {w0 w w' : World} {R0 : Nat → Prop} {q : Nat} {R : Nat → Prop} {t t' : AS} {L L' : List KRow}
theorem Rx.start (h : IsRef w q R t) : Rx w w R q R t [] := ⟨h, Fr.refl _ _, fun _ h => .inl h, fun _ h => (by cases h), List.Pairwise.nil⟩
theorem Rx.kept (h : Rx w0 w R0 q R t L) (hf : Fr (fun _ => False) w w') : Rx w0 w' R0 q R t L :=
  ⟨h.ref.keep hf (fun _ _ h => h), h.fr.trans hf (fun _ h => h) (fun _ _ h => h.elim), h.sub, fun r hr => ⟨hf.row (h.rows r hr).1 (fun _ _ h => h), (h.rows r hr).2⟩, h.apart⟩
theorem Rx.drewN (h : Rx w0 w R0 q R t L) (n : Nat) : Rx w0 (w.drewN n) R0 q R t L := h.kept (Fr.drewN _ w n)
theorem Rx.turn (h : Rx w0 w R0 q R t L) (ht : TurnedR w w' q R t') : ∃ R', Rx w0 w' R0 q R' t' L := by
  obtain ⟨R', h1, h2, h3⟩ := ht
  refine ⟨R', h1, h.fr.trans h2 (fun _ h => h) (fun i hi hs => (h.sub i hs).elim id (fun h => by omega)), fun k hk => ?_, fun r hr => ?_, h.apart⟩
  · rcases h3 k hk with h4 | h4
    · exact h.sub k h4
    · right; have := h.fr.size; omega
  · obtain ⟨hr1, hr2⟩ := h.rows r hr
    refine ⟨h2.row hr1 hr2, fun k hk hs => ?_⟩
    rcases h3 k hs with h4 | h4
    · exact hr2 k hk h4
    · have := row_lt hr1 hk; omega
theorem Rx.row {e : TypeId} {xs : List Value} {v : Value} (h : Rx w0 w R0 q R t L)
    (h1 : w'.ownsRow 0 e 1 v xs.length xs) (h2 : Fr (fun _ => False) w w') (h3 : ∀ g, v.ownBlock = some g → w.heap.size ≤ g) : Rx w0 w' R0 q R t ((v, e, xs) :: L) := by
  have hk := h.kept h2
  refine ⟨hk.ref, hk.fr, hk.sub, fun r hr => ?_, List.pairwise_cons.2 ⟨fun r hr k hk hr2 => ?_, h.apart⟩⟩
  · rcases List.mem_cons.1 hr with rfl | hr
    · exact ⟨h1, fun k hk hs => by have := h3 k hk; have := h.ref.lt hs; omega⟩
    · exact hk.rows r hr
  · have := h3 k hk
    have := row_lt (h.rows r hr).1 hr2
    omega
/-- A row that stands beside. -/
theorem Rx.add {e : TypeId} {xs : List Value} {v : Value} (h : Rx w0 w R0 q R t L) (h1 : w.ownsRow 0 e 1 v xs.length xs) (h2 : ∀ k, v.ownBlock = some k → ¬ R k) (h3 : ∀ r ∈ L, Apart2 (v, e, xs) r) : Rx w0 w R0 q R t ((v, e, xs) :: L) :=
  ⟨h.ref, h.fr, h.sub, fun r hr => by
    rcases List.mem_cons.1 hr with rfl | hr
    · exact ⟨h1, h2⟩
    · exact h.rows r hr, List.pairwise_cons.2 ⟨h3, h.apart⟩⟩
theorem Rx.nil (h : Rx w0 w R0 q R t L) (e : TypeId) : Rx w0 w R0 q R t ((.slice none 0 0, e, []) :: L) :=
  h.row (World.ownsRow_nil _ _ _ _) (Fr.refl _ _) (by simp [Value.ownBlock])
theorem Rx.sub' (h : Rx w0 w R0 q R t L) (hs : L'.Sublist L) : Rx w0 w R0 q R t L' := ⟨h.ref, h.fr, h.sub, fun r hr => h.rows r (hs.subset hr), h.apart.sublist hs⟩
theorem Rx.tail {r : KRow} (h : Rx w0 w R0 q R t (r :: L)) : Rx w0 w R0 q R t L := h.sub' (List.sublist_cons_self _ _)
theorem Rx.swap {a b : KRow} (h : Rx w0 w R0 q R t (a :: b :: L)) : Rx w0 w R0 q R t (b :: a :: L) := by
  have hp : (b :: a :: L).Perm (a :: b :: L) := List.Perm.swap a b L
  exact ⟨h.ref, h.fr, h.sub, fun r hr => h.rows r (hp.mem_iff.1 hr), (hp.pairwise_iff (fun h => h.symm)).2 h.apart⟩
/-- The head row is written or appended to: it is new. -/
theorem Rx.grown {e : TypeId} {xs ys : List Value} {v v' : Value} (h : Rx w0 w R0 q R t ((v, e, xs) :: L)) (hn : ∀ k, v.ownBlock = some k → w0.heap.size ≤ k)
    (h1 : w'.ownsRow 0 e 1 v' ys.length ys) (h2 : w.grownBy w' v.ownBlock) (h3 : ∀ g, v'.ownBlock = some g → v.ownBlock = some g ∨ w.heap.size ≤ g) : Rx w0 w' R0 q R t ((v', e, ys) :: L) := by
  obtain ⟨hr0, hs0⟩ := h.rows _ List.mem_cons_self
  have hap := List.pairwise_cons.1 h.apart
  have hfr : Fr (fun k => v.ownBlock = some k) w w' := Fr.of_grown h2 (fun k hk => hk)
  refine ⟨h.ref.keep hfr (fun k hk e => hs0 k e hk), h.fr.trans hfr (fun _ h => h) (fun i hi e => by have := hn i e; omega), h.sub, fun r hr => ?_, List.pairwise_cons.2 ⟨fun r hr k hk hr2 => ?_, hap.2⟩⟩
  · rcases List.mem_cons.1 hr with rfl | hr
    · refine ⟨h1, fun k hk hS => ?_⟩
      rcases h3 k hk with h4 | h4
      · exact hs0 k h4 hS
      · have := h.ref.lt hS; omega
    · obtain ⟨q1, q2⟩ := h.rows r (List.mem_cons_of_mem _ hr)
      exact ⟨hfr.row q1 (fun k hk e => hap.1 r hr k e hk), q2⟩
  · rcases h3 k hk with h4 | h4
    · exact hap.1 r hr k h4 hr2
    · have := row_lt (h.rows r (List.mem_cons_of_mem _ hr)).1 hr2; omega
theorem Rx.appended {e : TypeId} {xs : List Value} {x v v' : Value} {o : Obj} (h : Rx w0 w R0 q R t ((v, e, xs) :: L)) (hn : ∀ k, v.ownBlock = some k → w0.heap.size ≤ k)
    (h1 : w'.ownsRow 0 e 1 v' (xs.length + 1) (xs ++ [x])) (h2 : (w.alloc o).grownBy w' v.ownBlock) (h3 : v'.ownBlock = v.ownBlock ∨ v'.ownBlock = some (w.heap.size + 1)) :
    Rx w0 w' R0 q R t ((v', e, xs ++ [x]) :: L) ∧ ∀ k, v'.ownBlock = some k → w0.heap.size ≤ k := by
  have h4 : ∀ g, v'.ownBlock = some g → v.ownBlock = some g ∨ w.heap.size ≤ g := fun g hg => by
    rcases h3 with h4 | h4
    · exact .inl (h4 ▸ hg)
    · rw [h4] at hg; right; simp at hg; omega
  refine ⟨h.grown hn (by simpa using h1) (grown_trans (World.grownBy_alloc w o _) h2) h4, fun k hk => ?_⟩
  rcases h4 k hk with h5 | h5
  · exact hn k h5
  · have := h.fr.size; omega
theorem Rx.head {e : TypeId} {xs : List Value} {v : Value} (h : Rx w0 w R0 q R t ((v, e, xs) :: L)) : w.ownsRow 0 e 1 v xs.length xs := (h.rows _ List.mem_cons_self).1
theorem Rx.rowI {v : Value} {e : TypeId} {k : IntKind} {xs : List Int} (h : Rx w0 w R0 q R t L) (hr : (v, e, xs.map (Value.int k)) ∈ L) : w.ownsRow 0 e 1 v xs.length (xs.map (Value.int k)) := by
  have := (h.rows _ hr).1
  simpa only [List.length_map] using this
/-- The arena is written: its rows beside stand. -/
theorem Rx.put (h : Rx w0 w R0 q R t L) (h1 : IsRef w' q R t') (h2 : Fr R w w') : Rx w0 w' R0 q R t' L :=
  ⟨h1, h.fr.trans h2 (fun _ h => h) (fun i hi e => (h.sub i e).elim id (fun h => by omega)), h.sub, fun r hr => ⟨h2.row (h.rows r hr).1 (h.rows r hr).2, (h.rows r hr).2⟩, h.apart⟩
end
/-- Rows of other types lie apart. -/
theorem apart_ty {w : World} {e e' : TypeId} {v v' : Value} {xs ys : List Value} {n m : Nat} (h : w.ownsRow 0 e 1 v n xs) (h' : w.ownsRow 0 e' 1 v' m ys) (hne : e ≠ e') : Apart2 (v, e, xs) (v', e', ys) := fun k hk hk' => by
  obtain ⟨c1, h1⟩ := row_cells h hk
  obtain ⟨c2, h2⟩ := row_cells h' hk'
  exact hne (blk_ty h1 h2)
theorem standsIn_idx (xs : List Int) (a : Int) : standsIn xs.length (fun j => xs[j]?.getD 0) a = if a ∈ xs then some (xs.idxOf a) else none := by
  unfold standsIn
  by_cases h : a ∈ xs
  · rw [if_pos h]
    have h1 := List.idxOf_lt_length_of_mem h
    refine firstAt_some _ a xs.length 0 _ (Nat.zero_le _) (by omega) ?_ (fun j _ hj e => ?_)
    · simp only [List.getElem?_eq_getElem h1, Option.getD_some]; exact List.getElem_idxOf h1
    · have hj2 : j < xs.length := by omega
      simp only [List.getElem?_eq_getElem hj2, Option.getD_some] at e
      have := List.not_of_lt_findIdx (p := (· == a)) (xs := xs) (i := j) hj
      simp [e] at this
  · rw [if_neg h]
    refine firstAt_none _ a _ 0 (fun j _ hj e => h ?_)
    have hj2 : j < xs.length := by omega
    simp only [List.getElem?_eq_getElem hj2, Option.getD_some] at e
    exact e ▸ List.getElem_mem hj2
/-- Where the objects lie, one behind the other. -/
def adrs (os : List Ob) (k : Nat) : List Int := (List.range k).map (adr os)
theorem adrs_succ (os : List Ob) (k : Nat) : adrs os (k + 1) = adrs os k ++ [adr os k] := by unfold adrs; rw [List.range_succ, List.map_append]; rfl
theorem adrs_length (os : List Ob) (k : Nat) : (adrs os k).length = k := by simp [adrs]
theorem adrs_at (os : List Ob) {i k : Nat} (h : i < k) : (adrs os k)[i]?.getD 0 = adr os i := by
  unfold adrs; rw [List.getElem?_map, List.getElem?_range h]; rfl
end Go.Proofs.Ytniifefmjdjebaa
namespace Go.Proofs.Ytniifefmjdjebaa
open Go.RowKit
set_option linter.unusedVariables false
set_option linter.unusedSimpArgs false
theorem obAt_ok {s : AS} (hg : s.Good) {a : Int} (h : isOb s a = true) : (obAt s a).ok := by
  obtain ⟨l1, l2, hl, _⟩ := findOb_split _ _ _ _ (isOb_some h)
  exact hg.used _ (by rw [hl]; simp)
theorem objs_ok {s : AS} (hg : s.Good) {live : List Int} (h2 : ∀ a ∈ live, isOb s a = true) : ∀ x ∈ objs s live, x.ok := fun x hx => by
  obtain ⟨a, ha, rfl⟩ := List.mem_map.1 hx
  exact obAt_ok hg (h2 a ha)
theorem copyS_good {s : AS} (hg : s.Good) {live : List Int} (h1 : live.Nodup) (h2 : ∀ a ∈ live, isOb s a = true) (k : Nat) : (copyS s live k).Good := by
  have e1 := tot_take_le (objs s live) k
  have e2 := objs_tot s live h1 h2
  have e3 := hg.fits
  exact ⟨hg.lo, hg.hi, by show tot ((objs s live).take k) ≤ s.semi; omega, hg.small, fun x hx => objs_ok hg h2 x (List.mem_of_mem_take hx), hg.used⟩
theorem fixVs_I64 {f : Int → Option Int} (hf : ∀ a b, f a = some b → I64 b) : ∀ (ns vs : List Int), (∀ v ∈ vs, I64 v) → ∀ v ∈ fixVs f vs ns, I64 v
  | [], vs, h => h
  | n :: ns, vs, h => by
    show ∀ v ∈ fixVs f (match f (vs[n.toNat]?.getD 0) with | some now => vs.set n.toNat now | none => vs) ns, I64 v
    refine fixVs_I64 hf ns _ ?_
    cases hx : f (vs[n.toNat]?.getD 0) with
    | none => exact h
    | some now =>
      intro v hv
      rcases List.mem_or_eq_of_mem_set hv with h1 | h1
      · exact h v h1
      · exact h1 ▸ hf _ _ hx
theorem toK_I64 {s : AS} (hg : s.Good) {live : List Int} (h1 : live.Nodup) (h2 : ∀ a ∈ live, isOb s a = true) (k : Nat) : ∀ a b, toK live (objs s live) k a = some b → I64 b := by
  intro a b h
  unfold toK at h
  split at h
  · obtain rfl := Option.some.inj h
    have e1 := objs_tot s live h1 h2
    have e2 := hg.small
    have e3 := tot_take_le (objs s live) (live.idxOf a)
    unfold I64 adr
    omega
  · cases h
theorem fixOb_ok (T : List (List Int)) {f : Int → Option Int} (hf : ∀ a b, f a = some b → I64 b) (ns : List Int) {x : Ob} (hx : x.ok) : (⟨x.kind, fixVs f x.vs ns⟩ : Ob).ok :=
  ⟨hx.1, by show (fixVs f x.vs ns).length ≤ _; rw [fixVs_length]; exact hx.2.1, fixVs_I64 hf ns _ hx.2.2⟩
theorem tot_fixIn (T : List (List Int)) (f : Int → Option Int) (os : List Ob) (i : Nat) (x : Ob) (j : Nat) (hx : os[i]? = some x) : tot (fixIn T f os i x j) = tot os := by
  obtain ⟨hi, he⟩ := List.getElem?_eq_some_iff.1 hx
  unfold fixIn
  rw [tot_append, tot_cons, tot_fix]
  conv => rhs; rw [← List.take_append_drop i os, tot_append, List.drop_eq_getElem_cons hi, tot_cons, he]
  show _ + ((⟨x.kind, fixVs f x.vs _⟩ : Ob).size + _) = _
  simp only [Ob.size, fixVs_length]
theorem fixIn_ok (T : List (List Int)) {f : Int → Option Int} (hf : ∀ a b, f a = some b → I64 b) {os : List Ob} (ho : ∀ x ∈ os, x.ok) (i : Nat) (x : Ob) (j : Nat) (hx : os[i]? = some x) : ∀ y ∈ fixIn T f os i x j, y.ok := by
  intro y hy
  unfold fixIn at hy
  rcases List.mem_append.1 hy with h | h
  · obtain ⟨z, hz, rfl⟩ := List.mem_map.1 (List.mem_of_mem_take h)
    exact fixOb_ok T hf _ (ho z hz)
  · rcases List.mem_cons.1 h with rfl | h
    · exact fixOb_ok T hf _ (ho x (List.mem_of_getElem? hx))
    · exact ho y (List.mem_of_mem_drop h)
theorem fixIn_good {s : AS} (hg : s.Good) {live : List Int} (h1 : live.Nodup) (h2 : ∀ a ∈ live, isOb s a = true) (T : List (List Int)) (k i : Nat) (x : Ob) (j : Nat) (hx : (objs s live)[i]? = some x) :
    AS.Good ⟨fixIn T (toK live (objs s live) k) (objs s live) i x j, s.used, toK live (objs s live) k, s.semi⟩ := by
  have e2 := objs_tot s live h1 h2
  have e3 := hg.fits
  refine ⟨hg.lo, hg.hi, ?_, hg.small, fixIn_ok T (toK_I64 hg h1 h2 k) (objs_ok hg h2) i x j hx, hg.used⟩
  show tot (fixIn T _ _ i x j) ≤ s.semi
  rw [tot_fixIn T _ _ i x j hx]; omega
set_option maxRecDepth 100000 in
set_option maxHeartbeats 2000000 in
theorem refCollect_bad (q : Nat) (tv rv : Value) (rts : List Int) (R : Nat → Prop) (s : AS) (w : World) (h : IsRef w q R s) (hg : s.Good) (hr : w.ownsRow 0 2 1 rv rts.length (rts.map (Value.int .i64))) (hbad : ¬ rootsOk s rts) :
    Calls Try.prog 58 #[.pointer (some ⟨q, 0, none⟩), tv, rv] w fun e w' => e = .returned (.tuple #[.slice none 0 0, .int .i64 57]) ∧ w' = w := by
  obtain ⟨ar, cr, rfl⟩ := row_form hr
  have hll := row_maxLen hr
  obtain ⟨vl, va, hlr, ha, tl, h1, h2⟩ := h
  have H := Lib.hid (And.intro h1 (And.intro hr (And.intro hbad hg)))
  clear h1 h2 hr hbad hg
  obtain ⟨lr, hlr'⟩ : ∃ n, n = rts.length := ⟨_, rfl⟩
  have Hlr := Lib.hid hlr'
  rw [← hlr'] at H hll ⊢
  clear hlr'
  go_enter Try.func58, Try.ntmps58
  go_wp2_with fail
  go_loopw [8] (fun i wr => ∃ k : Nat, k ≤ lr ∧ i = .int .i64 k ∧ wr = w ∧ ∀ a ∈ rts.take k, a = 0 ∨ isOb s a = true) (fun i _ => (lr - intOf i).toNat)
  case atStart => exact ⟨0, by omega, rfl, rfl, by simp⟩
  case round =>
    obtain ⟨k, hk, rfl, rfl, hok⟩ := hrel
    have HOk := Lib.hid hok; clear hok
    by_cases hlt : k < lr
    · have hrow := H.out.2.1
      obtain ⟨g, c, _, e1, _, _, _⟩ := row_addr hrow (by omega)
      simp only [Value.slice.injEq, true_and] at e1
      obtain ⟨rfl, rfl⟩ := e1
      have hcell := row_int hrow hlt
      have Htk := Lib.hid (show ∀ y, y = rts[k]?.getD 0 → (y = 0 ∨ isOb s y = true) → ∀ a ∈ rts.take (k + 1), a = 0 ∨ isOb s a = true from by
        intro y hy hyo a ha
        have hkL : k < rts.length := by rw [← Hlr.out]; exact hlt
        rw [List.take_succ_eq_append_getElem hkL] at ha
        rcases List.mem_append.1 ha with ha | ha
        · exact HOk.out a ha
        · simp only [List.mem_singleton] at ha
          rw [List.getElem?_eq_getElem hkL, Option.getD_some] at hy
          rw [ha, ← hy]; exact hyo)
      obtain ⟨y, hy⟩ : ∃ y, y = rts[k]?.getD 0 := ⟨_, rfl⟩
      rw [← hy] at hcell
      have Hy := Lib.hid hy
      clear hy hrow
      by_cases hy0 : y = 0
      · have HN := Lib.hid (Htk.out y Hy.out (.inl hy0))
        subst hy0
        go_wp2
        go_roundw
        case rel => exact ⟨k + 1, by omega, by go_num, by trivial, HN.out⟩
        case measure => simp [intOf]; omega
      · have hb : (y != 0) = true := by simpa using hy0
        go_wp2_with fail
        refine (refAt_any q y vl va hlr ha tl s _ H.out.1 H.out.2.2.2).mono ?_
        rintro e w1 ⟨u, rfl, hf, rfl⟩
        rcases hf.is with ⟨bo, rfl, hob⟩ | ⟨rfl, hob⟩
        · have HN := Lib.hid (Htk.out y Hy.out (.inr hob))
          clear hcell hf hob
          go_wp2
          go_roundw
          case rel => exact ⟨k + 1, by omega, by go_num, by trivial, HN.out⟩
          case measure => simp [intOf]; omega
        · clear hcell hf hob
          go_wp2
          go_ret2
          exact ⟨rfl, rfl⟩
    · obtain rfl : k = lr := by omega
      refine absurd (show rootsOk s rts from fun a ha => HOk.out a ?_) H.out.2.2.1
      rw [Hlr.out, List.take_length]; exact ha
end Go.Proofs.Ytniifefmjdjebaa
namespace Go.Proofs.Ytniifefmjdjebaa
open Go.RowKit
set_option linter.unusedVariables false
set_option linter.unusedSimpArgs false
theorem und126 : Try.prog.underlying 126 = some (.slice 4) := by kernel_rfl
theorem info4 : (Try.prog.info? 4).map (fun i => (i.zero, i.size, i.bytes)) = some (some (.bool false), 1, 1) := by kernel_rfl
set_option maxRecDepth 100000 in
set_option maxHeartbeats 8000000 in
theorem refCollect_ok (q : Nat) (tv rv : Value) (rts : List Int) (R : Nat → Prop) (s : AS) (T : List (List Int)) (D : Nat → Prop) (rs : List Value) (w : World) (h : IsRef w q R s) (hg : s.Good) (hr : w.ownsRow 0 2 1 rv rts.length (rts.map (Value.int .i64))) (hok : rootsOk s rts)
    (ht : TabIs w tv T D rs) (hD : ∀ k, D k → ¬ R k) (hDl : ∀ k, D k → k < w.heap.size) (hR : ∀ k, rv.ownBlock = some k → ¬ R k) (hlen : rts.length ≤ 1048576) :
    Calls Try.prog 58 #[.pointer (some ⟨q, 0, none⟩), tv, rv] w fun e w' => ∃ v, e = .returned (.tuple #[v, .int .i64 0]) ∧ w'.ownsRow 0 2 1 v rts.length ((collectR s T rts).map (Value.int .i64)) ∧ (∀ k, v.ownBlock = some k → w.heap.size ≤ k) ∧
      ∃ R', IsRef w' q R' (collectS s T rts) ∧ Fr R w w' ∧ (∀ k, R' k → R k ∨ w.heap.size ≤ k) ∧ ∀ k, v.ownBlock = some k → ¬ R' k := by
  obtain ⟨i2, hi2, hz2, hs2, hb2⟩ := info_parts info2
  obtain ⟨i4, hi4, hz4, hs4, hb4⟩ := info_parts info4
  obtain ⟨ar, cr, rfl⟩ := row_form hr
  obtain ⟨vl, va, hlr, ha, tl, h1, h2⟩ := h
  have HB0 := Lib.hid (show IsRef w q R s from ⟨vl, va, hlr, ha, tl, h1, h2⟩)
  have H := Lib.hid (And.intro h1 (And.intro hg (And.intro ht (And.intro hr (And.intro hok (And.intro hD (And.intro hDl hR)))))))
  clear h1 h2 hg ht hr hok hD hDl hR
  have HLen := Lib.hid hlen
  obtain ⟨lr, hlr'⟩ : ∃ n, n = rts.length := ⟨_, rfl⟩
  have Hlr := Lib.hid hlr'
  rw [← hlr'] at H hlen ⊢
  clear hlr'
  go_enter Try.func58, Try.ntmps58
  go_wp2_with fail
  go_loopw [8] (fun i wr => ∃ k : Nat, k ≤ lr ∧ i = .int .i64 k ∧ w = wr) (fun i _ => (lr - intOf i).toNat)
  case atStart => exact ⟨0, by omega, rfl, rfl⟩
  case round =>
    obtain ⟨k, hk, rfl, rfl⟩ := hrel
    by_cases hlt : k < lr
    · have hrow := H.out.2.2.2.1
      obtain ⟨g, c, _, e1, _, _, _⟩ := row_addr hrow (by omega)
      simp only [Value.slice.injEq, true_and] at e1
      obtain ⟨rfl, rfl⟩ := e1
      have hcell := row_int hrow hlt
      obtain ⟨y, hy⟩ : ∃ y, y = rts[k]?.getD 0 := ⟨_, rfl⟩
      rw [← hy] at hcell
      have hyo : y = 0 ∨ isOb s y = true := by
        have hkL : k < rts.length := by rw [← Hlr.out]; exact hlt
        rw [List.getElem?_eq_getElem hkL, Option.getD_some] at hy
        rw [hy]
        exact H.out.2.2.2.2.1 _ (List.getElem_mem hkL)
      clear hy hrow
      by_cases hy0 : y = 0
      · subst hy0
        clear hyo
        go_wp2
        go_roundw
        case rel => exact ⟨k + 1, by omega, by go_num, by trivial⟩
        case measure => simp [intOf]; omega
      · have hob : isOb s y = true := hyo.elim (fun h => absurd h hy0) id
        have hb : (y != 0) = true := by simpa using hy0
        go_wp2_with fail
        refine (refAt_any q y vl va hlr ha tl s _ H.out.1 H.out.2.1).mono ?_
        rintro e w1 ⟨u, rfl, hf, rfl⟩
        rcases hf.is with ⟨bo, rfl, hob'⟩ | ⟨rfl, hob'⟩
        · clear hcell hf hob hob' hyo
          go_wp2
          go_roundw
          case rel => exact ⟨k + 1, by omega, by go_num, by trivial⟩
          case measure => simp [intOf]; omega
        · rw [hob] at hob'; cases hob'
    · obtain rfl : lr = k := by omega
      go_wp2_with fail
      refine (refReach_any q tv _ rts R s T D rs _ HB0.out H.out.2.1 H.out.2.2.1 (by rw [← Hlr.out]; exact H.out.2.2.2.1) HLen.out H.out.2.2.2.2.2.2.1).mono ?_
      rintro e w2 ⟨v2, rfl, q1, q2, q3⟩
      obtain ⟨live, hlive⟩ : ∃ live, live = reach s T rts := ⟨_, rfl⟩
      have HR2 := Lib.hid ((Rx.start HB0.out).row q1 q2 q3)
      rw [← hlive, List.length_map] at q1
      obtain ⟨a2, c2, rfl⟩ := row_form q1
      rw [← hlive] at HR2
      have HLive := Lib.hid hlive
      clear hlive q1 q2 q3
      have hlg := reach_good s T rts
      have hlivn := reach_len s T rts
      rw [← HLive.out] at hlg hlivn
      have HLg := Lib.hid hlg
      have hlive : live.length ≤ 1048576 := by
        have h2 := len_le_tot s.used
        have h3 := H.out.2.1.small
        omega
      obtain ⟨ln, hln⟩ : ∃ ln, ln = live.length := ⟨_, rfl⟩
      have Hln := Lib.hid hln
      rw [← hln] at HR2 hlive ⊢
      clear hlg hlivn hln
      go_wp2_with fail
      refine (refFlip_any q R s _ HR2.out.ref H.out.2.1).mono ?_
      rintro e w3 ⟨rfl, htu⟩
      obtain ⟨R3, h3⟩ := HR2.out.turn htu
      have e0 : copyS s live 0 = ⟨[], s.used, fun _ => none, s.semi⟩ := by
        unfold copyS; congr 1 <;> (try (funext a; simp [toK]))
      rw [← e0] at h3
      have H3 := Lib.hid (h3.nil 2)
      clear htu h3 e0
      go_wp2_with fail
      go_loopw [10, 11] (fun u i wz => ∃ (k : Nat) (R' : Nat → Prop), k ≤ ln ∧ i = .int .i64 k ∧ (∀ g, u.ownBlock = some g → w.heap.size ≤ g) ∧ Rx w wz R q R' (copyS s live k) [(u, 2, (adrs (objs s live) k).map (Value.int .i64)), (.slice a2 ln c2, 2, live.map (Value.int .i64))]) (fun _ i _ => (ln - intOf i).toNat)
      case atStart => exact ⟨0, R3, by omega, rfl, by simp [Value.ownBlock], H3.out⟩
      case round =>
        obtain ⟨i, R4, hi, rfl, hun, hx⟩ := hrel
        have HX := Lib.hid hx
        have HUn := Lib.hid hun
        clear hx hun
        have hrn := HX.out.head
        rw [List.length_map, adrs_length] at hrn
        obtain ⟨an, cn, rfl⟩ := row_form hrn
        have Hrn := Lib.hid hrn
        clear hrn
        by_cases hil : i < ln
        · have hro := HX.out.rowI (v := .slice a2 ln c2) (e := 2) (k := .i64) (xs := live) (by simp)
          rw [← Hln.out] at hro
          obtain ⟨g, c, _, e1, _, _, _⟩ := row_addr hro (by omega)
          simp only [Value.slice.injEq, true_and] at e1
          obtain ⟨rfl, rfl⟩ := e1
          have hcell := row_int hro hil
          obtain ⟨y, hy⟩ : ∃ y, y = live[i]?.getD 0 := ⟨_, rfl⟩
          have hyl : live[i]? = some y := by rw [hy, List.getElem?_eq_getElem (by rw [← Hln.out]; exact hil)]; rfl
          rw [← hy] at hcell
          have HSt := Lib.hid (copyS_step s live i y HLg.out.1 HLg.out.2 H.out.2.1 hyl)
          clear hy hyl hro
          go_wp2_with fail
          refine (refCopy_any q y R4 _ _ HX.out.ref (copyS_good H.out.2.1 HLg.out.1 HLg.out.2 i)).mono ?_
          rw [HSt.out.1, HSt.out.2.1, HSt.out.2.2]
          obtain ⟨na, hna⟩ : ∃ na, na = adr (objs s live) i := ⟨_, rfl⟩
          have Hna := Lib.hid hna
          rw [← hna]
          clear hna
          rintro e w5 ⟨rfl, htu⟩
          obtain ⟨R5, h5⟩ := HX.out.turn htu
          have H5 := Lib.hid h5
          have hr5 := h5.head
          rw [List.length_map, adrs_length] at hr5
          have Hr5 := Lib.hid hr5
          clear htu h5 hr5 hcell
          go_wp2_with (first | (at_builtin; refine wpList_append_own_at _ rfl _ _ 38 rfl 0 2 i2 (.int .i64 0) 1 8 und38 hi2 hz2 hs2 hb2 rfl (by decide) _ _ _ rfl (Hr5.out.alloc _) ⟨w5.heap.size, 0, none⟩ 1 1 [.int .i64 na] rfl rfl (fun j u hu => cell_one_new _ _ _ j u hu) (by intro u hu; simp at hu; subst hu; rfl) (by unfold maxLen; omega) (by omega) (Nat.zero_le _) ?_))
          intro v7 w7 hown7 hgr7 _ hloc7
          have HG := Lib.hid (H5.out.appended HUn.out (by rw [List.length_map, adrs_length]; exact hown7) hgr7 (by simpa using hloc7))
          clear hown7 hgr7 hloc7
          go_wp2
          go_roundw
          case rel => exact ⟨i + 1, R5, by omega, by go_num, HG.out.2, by rw [adrs_succ, ← Hna.out, List.map_append]; exact HG.out.1⟩
          case measure => simp [intOf]; omega
        · obtain rfl : i = ln := by omega
          obtain ⟨os, hos⟩ : ∃ os, os = objs s live := ⟨_, rfl⟩
          have hol : os.length = i := by rw [hos, objs_length]; exact Hln.out.symm
          obtain ⟨F, hF⟩ : ∃ F, F = toK live os i := ⟨_, rfl⟩
          have HOs := Lib.hid (And.intro hos hF)
          have HOl := Lib.hid hol
          have hcs : copyS s live i = ⟨fixU T F os 0, s.used, F, s.semi⟩ := by
            rw [fixU_zero]; unfold copyS
            rw [← hos, ← hF, List.take_of_length_le (by omega)]
          rw [hcs, ← hos] at HX
          have HGd := Lib.hid (fun (k : Nat) (x : Ob) (m : Nat) (hx : os[k]? = some x) => show AS.Good ⟨fixIn T F os k x m, s.used, F, s.semi⟩ from by
            rw [hF, hos]; rw [hos] at hx; exact fixIn_good H.out.2.1 HLg.out.1 HLg.out.2 T i k x m hx)
          have HF64 := Lib.hid (show ∀ a b, F a = some b → I64 b from by rw [hF, hos]; exact toK_I64 H.out.2.1 HLg.out.1 HLg.out.2 i)
          clear hcs hos hF hol
          go_wp2_with fail
          go_loopw [14] (fun x14 wz => ∃ (k : Nat) (R' : Nat → Prop), k ≤ i ∧ x14 = .int .i64 k ∧ Rx w wz R q R' ⟨fixU T F os k, s.used, F, s.semi⟩ [(.slice an i cn, 2, (adrs os i).map (Value.int .i64)), (.slice a2 i c2, 2, live.map (Value.int .i64))]) (fun x14 _ => (i - intOf x14).toNat)
          case atStart => exact ⟨0, R4, by omega, rfl, HX.out⟩
          case round =>
            obtain ⟨k, R6, hk, rfl, hx⟩ := hrel
            have HU := Lib.hid hx
            clear hx
            by_cases hkl : k < i
            · have hrn := HU.out.rowI (v := .slice an i cn) (e := 2) (k := .i64) (xs := adrs os i) (by simp)
              rw [adrs_length] at hrn
              obtain ⟨gn, dn, _, e1, _, _, _⟩ := row_addr hrn (by omega)
              simp only [Value.slice.injEq, true_and] at e1
              obtain ⟨rfl, rfl⟩ := e1
              have hcell := row_int hrn hkl
              rw [adrs_at os hkl] at hcell
              obtain ⟨x, hx⟩ : ∃ x, os[k]? = some x := ⟨_, List.getElem?_eq_getElem (by rw [HOl.out]; exact hkl)⟩
              have hokx : x.ok := objs_ok H.out.2.1 HLg.out.2 x (by rw [← HOs.out.1]; exact List.mem_of_getElem? hx)
              have hgd := HGd.out k x 0 hx
              rw [fixIn_zero T F os k x hx] at hgd
              have hax : adr (fixU T F os k) k = adr os k := by rw [← fixIn_zero T F os k x hx]; exact fixIn_adr T F os k x 0 hx
              have hxk : (fixU T F os k)[k]? = some x := by rw [← fixIn_zero T F os k x hx]; exact fixIn_at T F os k x 0 hx
              have HXx := Lib.hid (And.intro hx (And.intro hokx (And.intro hgd (And.intro hax hxk))))
              have hvl := hokx.2.1
              obtain ⟨na, hna⟩ : ∃ na, na = adr os k := ⟨_, rfl⟩
              have Hna := Lib.hid hna
              rw [← hna] at hcell
              obtain ⟨vl', va', hl', ha', tl', g1, g2⟩ := HU.out.ref
              have HI := Lib.hid (And.intro g1 g2)
              clear hrn hx hokx hgd hax hxk hna g1 g2
              go_wp2_with fail
              refine (refAt_any q na vl' va' hl' ha' tl' _ _ HI.out.1 HXx.out.2.2.1).mono ?_
              rintro e w6 ⟨u, rfl, hf, rfl⟩
              rcases hf with ⟨j, oo, x', hj, hx', hadr, hfd, rfl⟩ | ⟨hfd, rfl⟩
              · have hjl : j < (fixU T F os k).length := (List.getElem?_eq_some_iff.1 hx').1
                have hkl2 : k < (fixU T F os k).length := (List.getElem?_eq_some_iff.1 HXx.out.2.2.2.2).1
                obtain rfl : k = j := (adr_inj _ hjl hkl2 (by rw [HXx.out.2.2.2.1, ← Hna.out]; exact hadr)).symm
                have hxe := HXx.out.2.2.2.2
                rw [hxe] at hx'
                obtain rfl := Option.some.inj hx'
                obtain ⟨ob, ov⟩ := oo
                have hoc := HI.out.1.used.obs k _ x hj hxe
                obtain ⟨avx, cvx, hov⟩ := row_form hoc.row
                simp only at hov
                subst hov
                obtain ⟨xn, hxn⟩ : ∃ xn, xn = x.vs.length := ⟨_, rfl⟩
                have Hxn := Lib.hid hxn
                rw [← hxn] at hj hvl hoc ⊢
                have Hj := Lib.hid hj
                have HOC := Lib.hid (fun (W : World) (hW : Fr (fun _ => False) w6 W) => hoc.keep hW id (fun _ _ h => h))
                have HCell := Lib.hid (fun (W : World) (hW : Fr (fun _ => False) w6 W) => And.intro (blk_cell (hoc.keep hW id (fun _ _ h => h)).cells 1) (blk_cell (hoc.keep hW id (fun _ _ h => h)).cells 2))
                clear hfd hjl hkl2 hxe hoc hxn hj hadr hcell
                simp only [optr]
                have HFd := Lib.hid (Fr.drewN (fun _ => False) w6 1)
                have HTab := Lib.hid (H.out.2.2.1.keep HU.out.fr H.out.2.2.2.2.2.1)
                go_wp2_with fail
                go_region_held3 (fun w' => w'.cell? ⟨ob, 1, none⟩ = some (.int .i64 x.kind) ∧ w'.cell? ⟨ob, 2, none⟩ = some (.slice avx xn cvx))
                  (first | exact HCell.out _ HFd.out | exact HCell.out _ (HFd.out.trans H5.out.2.1 (fun _ h => h) (fun _ _ h => h)))
                  (first | (go_at_call 45; refine (refRefs_any _ T D rs x.kind xn _ (HTab.out.keep HFd.out (fun _ _ h => h)) HXx.out.2.1.1 (by omega) (by omega)).mono ?_; rintro e w5 ⟨v5, rfl, q1, q2, q3⟩; have H5 := Lib.hid (And.intro q1 (And.intro q2 q3)); clear q1 q2 q3))
                obtain ⟨L, hL⟩ : ∃ L, L = refsT T x.kind xn := ⟨_, rfl⟩
                have HL := Lib.hid hL
                rw [← hL, List.length_map] at H5
                obtain ⟨a5, c5, rfl⟩ := row_form H5.out.1
                obtain ⟨n5, hn5⟩ : ∃ n, n = L.length := ⟨_, rfl⟩
                have Hn5 := Lib.hid hn5
                have hn64 : n5 ≤ 65536 := by rw [hn5, hL]; exact refsT_len T x.kind _ H.out.2.2.1.small.2 hvl
                rw [← hn5] at H5 ⊢
                clear hL hn5
                have f65 : Fr (fun _ => False) w6 w5 := (Fr.drewN _ w6 1).trans H5.out.2.1 (fun _ h => h) (fun _ _ h => h)
                have hmk : ∀ W : World, (Instr.makeSlice 126 (.int .i64 (xn : Int)) (.int .i64 (xn : Int))).run Try.prog W = .ok (.slice (some ⟨W.heap.size, 0, none⟩) xn xn) (W.alloc (.cells (madeCells #[.bool false] xn) 4)) := fun W => by
                  have h5 := run_make (P := Try.prog) W 126 4 i4 (.bool false) und126 hi4 hz4 .i64 .i64 xn xn (by omega) (Int.le_refl _) (by rw [hb4]; omega) (by omega)
                  simp only [Int.toNat_natCast, hs4, Nat.mul_one] at h5
                  exact h5
                have hcd := (HCell.out w5 f65).2
                have H65 := Lib.hid f65
                clear f65
                have HR5 := Lib.hid (show Rx w w5 R q R6 ⟨fixU T F os k, s.used, F, s.semi⟩ [(.slice a5 n5 c5, 3, L.map (Value.int .i64)), (.slice (some ⟨gn, 0, none⟩) i cn, 2, (adrs os i).map (Value.int .i64)), (.slice a2 i c2, 2, live.map (Value.int .i64))] from by
                  refine (HU.out.kept H65.out).add (by rw [List.length_map, ← Hn5.out]; exact H5.out.1) (fun g hg e => ?_) (fun r hr => ?_)
                  · rcases H5.out.2.2 g hg with h7 | h7
                    · rcases HU.out.sub g e with h8 | h8
                      · exact H.out.2.2.2.2.2.1 g h7 h8
                      · have := H.out.2.2.2.2.2.2.1 g h7; omega
                    · have h8 := HU.out.ref.lt e
                      have h9 : w6.heap.size ≤ g := h7
                      omega
                  · have h7 := ((HU.out.kept H65.out).rows r hr).1
                    have h8 : r.2.1 = 2 := by
                      rcases List.mem_cons.1 hr with rfl | hr
                      · rfl
                      · simp at hr; rw [hr]
                    exact apart_ty H5.out.1 h7 (by rw [h8]; decide))
                go_wp2_with fail
                have HR6 := Lib.hid (show Rx w (w5.alloc (.cells (madeCells #[.bool false] xn) 4)) R q R6 ⟨fixU T F os k, s.used, F, s.semi⟩ [(.slice (some ⟨w5.heap.size, 0, none⟩) xn xn, 4, List.replicate xn (.bool false)), (.slice a5 n5 c5, 3, L.map (Value.int .i64)), (.slice (some ⟨gn, 0, none⟩) i cn, 2, (adrs os i).map (Value.int .i64)), (.slice a2 i c2, 2, live.map (Value.int .i64))] ∧ w.heap.size ≤ w5.heap.size from by
                  refine ⟨HR5.out.row ?_ (Fr.alloc _ w5 _) (fun g hg => by have : w5.heap.size = g := Option.some.inj hg; omega), HR5.out.fr.size⟩
                  have h5 := World.ownsRow_lit (base := 0) (e := 4) (size := 1) w5 (madeCells #[.bool false] xn) xn (Nat.zero_le _) (by unfold maxLen; omega) (by rw [size_madeCells, Nat.mul_one])
                  rw [toList_madeCells_one] at h5
                  rw [List.length_replicate]
                  exact h5)
                have HI6 := Lib.hid (show IsRef' (w5.alloc (.cells (madeCells #[.bool false] xn) 4)) q vl' va' hl' ha' tl' ⟨fixIn T F os k x 0, s.used, F, s.semi⟩ from by
                  rw [fixIn_zero T F os k x HXx.out.1]
                  exact HI.out.1.keep (H65.out.trans (Fr.alloc _ w5 _) (fun _ h => h) (fun _ _ h => h)) (fun _ _ h => h))
                obtain ⟨db, hdb⟩ : ∃ db, db = w5.heap.size := ⟨_, rfl⟩
                rw [← hdb] at HR6 ⊢
                obtain ⟨w7, hw7⟩ : ∃ w7, w7 = w5.alloc (.cells (madeCells #[.bool false] xn) 4) := ⟨_, rfl⟩
                rw [← hw7] at HR6 HI6 ⊢
                clear hdb hw7 hcd hmk
                go_loopw [18] (fun x18 wz => ∃ (jj m : Nat), jj ≤ n5 ∧ x18 = .int .i64 jj ∧ addAll (inB xn) [] (L.take jj) = (refsG T x).take m ∧ IsRef' wz q vl' va' hl' ha' tl' ⟨fixIn T F os k x m, s.used, F, s.semi⟩ ∧
                  Rx w wz R q R6 ⟨fixIn T F os k x m, s.used, F, s.semi⟩ [(.slice (some ⟨db, 0, none⟩) xn xn, 4, (List.range xn).map fun (i : Nat) => Value.bool (decide ((i : Int) ∈ (refsG T x).take m))), (.slice a5 n5 c5, 3, L.map (Value.int .i64)), (.slice (some ⟨gn, 0, none⟩) i cn, 2, (adrs os i).map (Value.int .i64)), (.slice a2 i c2, 2, live.map (Value.int .i64))]) (fun x18 _ => (n5 - intOf x18).toNat)
                case atStart =>
                  refine ⟨0, 0, by omega, rfl, rfl, HI6.out, ?_⟩
                  rw [fixIn_zero T F os k x HXx.out.1]
                  have h9 := HR6.out.1
                  rw [show List.replicate xn (Value.bool false) = (List.range xn).map fun (i : Nat) => Value.bool (decide ((i : Int) ∈ (refsG T x).take 0)) from by simp [List.map_const']] at h9
                  exact h9
                case round =>
                  obtain ⟨jj, m, hjj, rfl, r1, r2, r3⟩ := hrel
                  have HQ := Lib.hid (And.intro r1 (And.intro r2 r3))
                  clear r1 r2 r3
                  have hxm := fixIn_at T F os k x m HXx.out.1
                  have hoc := HQ.out.2.1.used.obs k _ _ Hj.out hxm
                  have hcv := blk_cell hoc.cells 2
                  simp only [List.getElem?_toArray, List.getElem?_cons_succ, List.getElem?_cons_zero] at hcv
                  have HOc := Lib.hid (And.intro hxm hoc)
                  clear hxm hoc
                  by_cases hjl : jj < n5
                  · have hrr := HQ.out.2.2.rowI (v := .slice a5 n5 c5) (e := 3) (k := .i64) (xs := L) (by simp)
                    rw [← Hn5.out] at hrr
                    obtain ⟨g5, d5, _, e5, _, _, _⟩ := row_addr hrr (by omega)
                    simp only [Value.slice.injEq, true_and] at e5
                    obtain ⟨rfl, rfl⟩ := e5
                    have hcell := row_int hrr hjl
                    obtain ⟨n, hn⟩ : ∃ n, n = L[jj]?.getD 0 := ⟨_, rfl⟩
                    have Htk := Lib.hid (show addAll (inB xn) [] (L.take (jj + 1)) = addN (inB xn) ((refsG T x).take m) n from by
                      have hkL : jj < L.length := by rw [← Hn5.out]; exact hjl
                      rw [List.take_succ_eq_append_getElem hkL, addAll_append, HQ.out.1, hn, List.getElem?_eq_getElem hkL]; rfl)
                    rw [← hn] at hcell
                    have HnL := Lib.hid hn
                    clear hrr hn
                    have HQd := Lib.hid (fun nd => And.intro (HQ.out.2.1.keep (T := fun _ => False) (Fr.drewN _ wr nd) (fun _ _ h => h)) (HQ.out.2.2.drewN nd))
                    by_cases hm0 : n < 0
                    · have HA := Lib.hid (show addAll (inB xn) [] (L.take (jj + 1)) = (refsG T x).take m from by
                        rw [Htk.out, addN_skip (.inr (inB_false (by omega)))])
                      go_wp2_with fail
                      go_quiet (fail)
                      go_wp2
                      go_roundw
                      case rel => exact ⟨jj + 1, m, by omega, by go_num, HA.out, HQd.out _⟩
                      case measure => simp [intOf]; omega
                    · obtain ⟨nn, rfl⟩ := Int.eq_ofNat_of_zero_le (show 0 ≤ n by omega)
                      by_cases hnx : nn < xn
                      · have hrd := (HQ.out.2.2.rows _ List.mem_cons_self).1
                        simp only [List.length_map, List.length_range] at hrd
                        have hcd := row_cell hrd (j := nn) (u := .bool (decide ((nn : Int) ∈ (refsG T x).take m))) (by rw [List.getElem?_map, List.getElem?_range hnx]; rfl)
                        have hfz : ∀ j, wr.frozen? ⟨db, j, none⟩ = false := hrd.frozenAt
                        have HRd := Lib.hid hrd
                        clear hrd
                        have hml : decide ((nn : Int) ≥ (xn : Int)) = false := by simp; omega
                        by_cases hin : (nn : Int) ∈ (refsG T x).take m
                        · rw [decide_eq_true hin] at hcd
                          have HA := Lib.hid (show addAll (inB xn) [] (L.take (jj + 1)) = (refsG T x).take m from by
                            rw [Htk.out, addN_skip (.inl hin)])
                          clear hin
                          go_wp2_with fail
                          go_quiet (fail)
                          go_wp2
                          go_roundw
                          case rel => exact ⟨jj + 1, m, by omega, by go_num, HA.out, HQd.out _⟩
                          case measure => simp [intOf]; omega
                        · rw [decide_eq_false hin] at hcd
                          have HA := Lib.hid (show addAll (inB xn) [] (L.take (jj + 1)) = (refsG T x).take m ++ [(nn : Int)] from by
                            rw [Htk.out, addN_new (inB_true (by omega) (by omega)) hin])
                          clear hin
                          have HT1 := Lib.hid (show (refsG T x).take (((refsG T x).take m).length + 1) = (refsG T x).take m ++ [(nn : Int)] from by
                            have h7 : addAll (inB xn) [] (L.take (jj + 1)) <+: refsG T x := by
                              have h8 : refsG T x = addAll (inB xn) (addAll (inB xn) [] (L.take (jj + 1))) (L.drop (jj + 1)) := by
                                rw [← addAll_append, List.take_append_drop, HL.out, Hxn.out]; rfl
                              rw [h8]; exact addAll_prefix _ _ _
                            rw [HA.out] at h7
                            have h9 := List.prefix_iff_eq_take.1 h7
                            rw [List.length_append, List.length_singleton] at h9
                            exact h9.symm)
                          have HDn := Lib.hid (show ((List.range xn).map fun (i : Nat) => Value.bool (decide ((i : Int) ∈ (refsG T x).take m))).set nn (.bool true) = (List.range xn).map fun (i : Nat) => Value.bool (decide ((i : Int) ∈ (refsG T x).take (((refsG T x).take m).length + 1))) from by
                            rw [HT1.out]
                            apply List.ext_getElem?
                            intro j
                            rw [List.getElem?_map]
                            by_cases hjn : j < xn
                            · rw [List.getElem?_range hjn]
                              by_cases hje : nn = j
                              · subst hje
                                rw [List.getElem?_set_self (by simpa using hjn)]; simp
                              · rw [List.getElem?_set_ne hje, List.getElem?_map, List.getElem?_range hjn]
                                have : ¬ ((j : Int) = (nn : Int)) := fun e => hje (by omega)
                                simp [this]
                            · rw [List.getElem?_eq_none (by simp; omega), List.getElem?_eq_none (l := List.range xn) (by simp; omega)]; rfl)
                          have HS1 := Lib.hid (fun nd => (show IsRef' ((wr.drewN nd).setCell ⟨db, nn, none⟩ (.bool true)) q vl' va' hl' ha' tl' ⟨fixIn T F os k x m, s.used, F, s.semi⟩ ∧
                              Rx w ((wr.drewN nd).setCell ⟨db, nn, none⟩ (.bool true)) R q R6 ⟨fixIn T F os k x m, s.used, F, s.semi⟩ [(.slice (some ⟨db, 0, none⟩) xn xn, 4, (List.range xn).map fun (i : Nat) => Value.bool (decide ((i : Int) ∈ (refsG T x).take (((refsG T x).take m).length + 1)))), (.slice (some ⟨g5, 0, none⟩) n5 c5, 3, L.map (Value.int .i64)), (.slice (some ⟨gn, 0, none⟩) i cn, 2, (adrs os i).map (Value.int .i64)), (.slice a2 i c2, 2, live.map (Value.int .i64))] from by
                            have hdR := (HQ.out.2.2.rows _ List.mem_cons_self).2 db rfl
                            refine ⟨(HQd.out nd).1.keep (T := fun j => j = db) (Fr.setCell _ _ _ rfl) (fun j hj e => hdR ((HI.out.2 db).2 (e ▸ hj))), ?_⟩
                            have h7 := (HRd.out.stored nn (.bool true))
                            rw [HDn.out] at h7
                            refine (HQd.out nd).2.grown (fun g hg => by have h8 : db = g := Option.some.inj hg; have := HR6.out.2; omega) ?_ ⟨rfl, rfl, rfl, by simp [World.setCell], fun j hj hn => Below.heap_setCell _ _ _ _ (fun e => hn (by rw [e]; rfl))⟩ (fun g hg => .inl hg)
                            simp only [List.length_map, List.length_range]
                            exact h7.1))
                          go_wp2_with fail
                          go_quiet (fail)
                          go_wp2_with fail
                          have HS2 := Lib.hid (HS1.out nq)
                          obtain ⟨w8, hw8⟩ : ∃ w8, w8 = (wr.drewN nq).setCell ⟨db, nn, none⟩ (.bool true) := ⟨_, rfl⟩
                          rw [← hw8] at HS2 ⊢
                          have hoc8 := HS2.out.1.used.obs k _ _ Hj.out HOc.out.1
                          have hcv8 := blk_cell hoc8.cells 2
                          simp only [List.getElem?_toArray, List.getElem?_cons_succ, List.getElem?_cons_zero] at hcv8
                          obtain ⟨vs, hvs⟩ : ∃ vs, vs = fixVs F x.vs ((refsG T x).take m) := ⟨_, rfl⟩
                          have hvsl : vs.length = xn := by rw [hvs, fixVs_length]; exact Hxn.out.symm
                          have hr8 := hoc8.row
                          simp only at hr8
                          rw [← hvs, hvsl] at hr8
                          obtain ⟨gx, dx, _, ex, _, _, _⟩ := row_addr hr8 (by omega)
                          simp only [Value.slice.injEq, true_and] at ex
                          obtain ⟨rfl, rfl⟩ := ex
                          have hcu := row_int hr8 hnx
                          obtain ⟨u, hu⟩ : ∃ u, u = vs[nn]?.getD 0 := ⟨_, rfl⟩
                          rw [← hu] at hcu
                          have HU8 := Lib.hid (And.intro hvs (And.intro hvsl hu))
                          have hrl8 := HS2.out.2.rowI (v := .slice (some ⟨g5, 0, none⟩) n5 c5) (e := 3) (k := .i64) (xs := L) (by simp)
                          rw [← Hn5.out] at hrl8
                          have hcl8 := row_int hrl8 hjl
                          rw [← HnL.out] at hcl8
                          have hro8 := HS2.out.2.rowI (v := .slice a2 i c2) (e := 2) (k := .i64) (xs := live) (by simp)
                          rw [← Hln.out] at hro8
                          have HI8 := Lib.hid (fun nd => (row_ints hro8 (fun a ha => isOb_I64 H.out.2.1 (HLg.out.2 a ha))).keep (Fr.drewN (fun _ => False) w8 nd))
                          have HPl := Lib.hid (show placeOf i (fun j => live[j]?.getD 0) u = (if u ∈ live then ((live.idxOf u : Nat) : Int) else -1) from by
                            unfold placeOf
                            rw [Hln.out, standsIn_idx]
                            by_cases hul : u ∈ live
                            · rw [if_pos hul, if_pos hul]
                            · rw [if_neg hul, if_neg hul])
                          have HFu := Lib.hid (show F u = if u ∈ live then some (adr os (live.idxOf u)) else none from by
                            rw [HOs.out.2]; unfold toK
                            rw [List.take_of_length_le (by rw [← Hln.out]; exact Nat.le_refl _)])
                          clear hvs hvsl hu hr8 hoc8 hrl8 hro8 hcell hcd hfz hcv hw8
                          go_quiet ((first | (go_at_call 81; exact Calls.quiet_of_same (place_at_any _ _ _ _ u _ (HI8.out _)))))
                          by_cases hul : u ∈ live
                          · rw [HPl.out, if_pos hul]
                            obtain ⟨ix, hix⟩ : ∃ ix, ix = live.idxOf u := ⟨_, rfl⟩
                            have hixl : ix < i := by rw [hix, Hln.out]; exact List.idxOf_lt_length_of_mem hul
                            rw [← hix]
                            have HFs := Lib.hid (show fixIn T F os k x (((refsG T x).take m).length + 1) = (fixIn T F os k x m).set k ⟨x.kind, vs.set nn (adr os ix)⟩ from by
                              rw [fixIn_set T F os k x _ m HXx.out.1]
                              unfold fixIn
                              rw [HT1.out, fixVs_snoc, Int.toNat_natCast, ← HU8.out.1, ← HU8.out.2.2, HFu.out, if_pos hul, ← hix])
                            clear hix hul
                            go_wp2_with fail
                            have hS9 : IsRef' (w8.drewN nq) q vl' va' hl' ha' tl' ⟨fixIn T F os k x m, s.used, F, s.semi⟩ ∧ Rx w (w8.drewN nq) R q R6 ⟨fixIn T F os k x m, s.used, F, s.semi⟩ [(.slice (some ⟨db, 0, none⟩) xn xn, 4, (List.range xn).map fun (i : Nat) => Value.bool (decide ((i : Int) ∈ (refsG T x).take (((refsG T x).take m).length + 1)))), (.slice (some ⟨g5, 0, none⟩) n5 c5, 3, L.map (Value.int .i64)), (.slice (some ⟨gn, 0, none⟩) i cn, 2, (adrs os i).map (Value.int .i64)), (.slice a2 i c2, 2, live.map (Value.int .i64))] :=
                              ⟨HS2.out.1.keep (T := fun _ => False) (Fr.drewN _ w8 nq) (fun _ _ h => h), HS2.out.2.drewN nq⟩
                            obtain ⟨w9, hw9⟩ : ∃ w9, w9 = w8.drewN nq := ⟨_, rfl⟩
                            rw [← hw9] at hS9 ⊢
                            have HS9 := Lib.hid hS9
                            have hoc9 := hS9.1.used.obs k _ _ Hj.out HOc.out.1
                            have hcv9 := blk_cell hoc9.cells 2
                            simp only [List.getElem?_toArray, List.getElem?_cons_succ, List.getElem?_cons_zero] at hcv9
                            have hr9 := hoc9.row
                            simp only at hr9
                            rw [← HU8.out.1, HU8.out.2.1] at hr9
                            have hcu9 := row_int hr9 hnx
                            have hfz9 : ∀ j, w9.frozen? ⟨gx, j, none⟩ = false := hr9.frozenAt
                            have hrl9 := hS9.2.rowI (v := .slice (some ⟨g5, 0, none⟩) n5 c5) (e := 3) (k := .i64) (xs := L) (by simp)
                            rw [← Hn5.out] at hrl9
                            have hcl9 := row_int hrl9 hjl
                            rw [← HnL.out] at hcl9
                            have hrn9 := hS9.2.rowI (v := .slice (some ⟨gn, 0, none⟩) i cn) (e := 2) (k := .i64) (xs := adrs os i) (by simp)
                            rw [adrs_length] at hrn9
                            have hcn9 := row_int hrn9 hixl
                            rw [adrs_at os hixl] at hcn9
                            obtain ⟨va9, hva9⟩ : ∃ va9, va9 = adr os ix := ⟨_, rfl⟩
                            rw [← hva9] at hcn9
                            have HVa := Lib.hid hva9
                            have hst := hS9.1.keep (T := fun _ => False) (Fr.drewN _ w9 1) (fun _ _ h => h)
                            have hst2 := hst.store (i := k) (j := nn) (b := ob) (g := gx) (cap := cvx) (x := ⟨x.kind, vs⟩) (v := va9) (by
                              have h7 := Hj.out
                              show hl'[k]? = some (ob, .slice (some ⟨gx, 0, none⟩) vs.length cvx)
                              rw [HU8.out.2.1]; exact h7) (by rw [HU8.out.1]; exact HOc.out.1)
                            have HSt := Lib.hid (show IsRef' ((w9.drewN 1).setCell ⟨gx, nn, none⟩ (.int .i64 va9)) q vl' va' hl' ha' tl' ⟨fixIn T F os k x (((refsG T x).take m).length + 1), s.used, F, s.semi⟩ ∧ Fr R6 (w9.drewN 1) ((w9.drewN 1).setCell ⟨gx, nn, none⟩ (.int .i64 va9)) from by
                              refine ⟨?_, hst2.2.mono fun j _ hj => (HI.out.2 j).2 hj⟩
                              rw [HFs.out, ← hva9]; exact hst2.1)
                            have HK9 := Lib.hid (show (w9.drewN 1).cell? ⟨ob, 2, none⟩ = some (.slice (some ⟨gx, 0, none⟩) xn cvx) ∧ (w9.drewN 1).cell? ⟨g5, jj, none⟩ = some (.int .i64 (nn : Int)) ∧ (w9.drewN 1).cell? ⟨gn, ix, none⟩ = some (.int .i64 va9) from ⟨hcv9, hcl9, hcn9⟩)
                            have HK9s := Lib.hid (show ((w9.drewN 1).setCell ⟨gx, nn, none⟩ (.int .i64 va9)).cell? ⟨ob, 2, none⟩ = some (.slice (some ⟨gx, 0, none⟩) xn cvx) ∧ ((w9.drewN 1).setCell ⟨gx, nn, none⟩ (.int .i64 va9)).cell? ⟨g5, jj, none⟩ = some (.int .i64 (nn : Int)) ∧ ((w9.drewN 1).setCell ⟨gx, nn, none⟩ (.int .i64 va9)).cell? ⟨gn, ix, none⟩ = some (.int .i64 va9) from by
                              have hf : Fr (fun j => j = gx) (w9.drewN 1) ((w9.drewN 1).setCell ⟨gx, nn, none⟩ (.int .i64 va9)) := Fr.setCell _ _ _ rfl
                              have hgxR : R6 gx := (HI.out.2 gx).2 (.inr (.inr (.inr ⟨_, List.mem_append_left _ (List.mem_of_getElem? Hj.out), .inr rfl⟩)))
                              refine ⟨hf.cell HK9.out.1 (fun e => ?_), hf.cell HK9.out.2.1 (fun e => ?_), hf.cell HK9.out.2.2 (fun e => ?_)⟩
                              · have e2 : ob = gx := e
                                obtain ⟨cg, h8⟩ := row_cells hr9 rfl
                                rw [e2] at hoc9
                                exact absurd (blk_ty hoc9.cells h8) (by decide)
                              · exact (hS9.2.rows (.slice (some ⟨g5, 0, none⟩) n5 c5, 3, L.map (Value.int .i64)) (by simp)).2 g5 rfl ((show g5 = gx from e) ▸ hgxR)
                              · exact (hS9.2.rows (.slice (some ⟨gn, 0, none⟩) i cn, 2, (adrs os i).map (Value.int .i64)) (by simp)).2 gn rfl ((show gn = gx from e) ▸ hgxR))
                            have hcd9 : w9.drew.cell? ⟨gx, nn, none⟩ = some (.int .i64 (vs[nn]?.getD 0)) := hcu9
                            have hfd9 : w9.drew.frozen? ⟨gx, nn, none⟩ = false := hfz9 nn
                            clear hst hst2 hS9 hoc9 hr9 hrl9 hrn9 hva9 hw9
                            go_region_held3 (fun w' => w'.cell? ⟨ob, 2, none⟩ = some (.slice (some ⟨gx, 0, none⟩) xn cvx) ∧ w'.cell? ⟨g5, jj, none⟩ = some (.int .i64 (nn : Int)) ∧ w'.cell? ⟨gn, ix, none⟩ = some (.int .i64 va9))
                              (first | exact HK9.out | exact HK9s.out)
                              (first | fail)
                            have HS10 := Lib.hid (((HS9.out.2.drewN 1).put ⟨vl', va', hl', ha', tl', HSt.out.1, HI.out.2⟩ HSt.out.2))
                            go_wp2
                            go_roundw
                            case rel => exact ⟨jj + 1, _, by omega, by go_num, HA.out.trans HT1.out.symm, HSt.out.1, HS10.out⟩
                            case measure => simp [intOf]; omega
                          · rw [HPl.out, if_neg hul]
                            have HFn := Lib.hid (show fixIn T F os k x (((refsG T x).take m).length + 1) = fixIn T F os k x m from by
                              unfold fixIn
                              rw [HT1.out, fixVs_snoc, Int.toNat_natCast, ← HU8.out.1, ← HU8.out.2.2, HFu.out, if_neg hul])
                            clear hul
                            have HS3 := Lib.hid (fun nd => And.intro (HS2.out.1.keep (T := fun _ => False) (Fr.drewN _ w8 nd) (fun _ _ h => h)) (HS2.out.2.drewN nd))
                            go_wp2
                            go_roundw
                            case rel => exact ⟨jj + 1, _, by omega, by go_num, HA.out.trans HT1.out.symm, by rw [HFn.out]; exact (HS3.out _).1, by rw [HFn.out]; exact (HS3.out _).2⟩
                            case measure => simp [intOf]; omega
                      · have HA := Lib.hid (show addAll (inB xn) [] (L.take (jj + 1)) = (refsG T x).take m from by
                          rw [Htk.out, addN_skip (.inr (inB_false (by omega)))])
                        go_wp2_with fail
                        go_quiet (fail)
                        go_wp2
                        go_roundw
                        case rel => exact ⟨jj + 1, m, by omega, by go_num, HA.out, HQd.out _⟩
                        case measure => simp [intOf]; omega
                  · obtain rfl : jj = n5 := by omega
                    have HE := Lib.hid (show fixIn T F os k x m = fixU T F os (k + 1) from by
                      rw [← fixIn_all T F os k x HXx.out.1]
                      unfold fixIn
                      have h7 : (refsG T x).take m = (refsG T x).take (refsG T x).length := by
                        rw [List.take_length, ← HQ.out.1, Hn5.out, List.take_length, HL.out, Hxn.out]; rfl
                      rw [h7])
                    have HQ2 := Lib.hid (show Rx w wr R q R6 ⟨fixU T F os (k + 1), s.used, F, s.semi⟩ [(.slice (some ⟨gn, 0, none⟩) i cn, 2, (adrs os i).map (Value.int .i64)), (.slice a2 i c2, 2, live.map (Value.int .i64))] from by
                      rw [← HE.out]; exact HQ.out.2.2.tail.tail)
                    go_wp2
                    go_roundw
                    case rel => exact ⟨k + 1, R6, by omega, by go_num, HQ2.out⟩
                    case measure => simp [intOf]; omega
              · exfalso
                have h8 : adr (fixU T F os k) k = na := by rw [HXx.out.2.2.2.1]; exact Hna.out.symm
                have h7 : k < (fixU T F os k).length := (List.getElem?_eq_some_iff.1 HXx.out.2.2.2.2).1
                have h9 := find_adr (fixU T F os k) k h7
                have h6 : findOb 0 (fixU T F os k) (adr (fixU T F os k) k) = none := by rw [h8]; exact hfd
                exact absurd (h6.symm.trans h9) (by simp)
            · obtain rfl : i = k := by omega
              have HRt := Lib.hid (fun (j : Nat) (hj : j < lr) => show (collectR s T rts).take (j + 1) = (collectR s T rts).take j ++ [(F (rts[j]?.getD 0)).getD 0] from by
                have hjr : j < rts.length := by rw [← Hlr.out]; exact hj
                have h1 : (collectR s T rts)[j]? = some ((F rts[j]).getD 0) := by
                  unfold collectR
                  rw [List.getElem?_map, List.getElem?_eq_getElem hjr, HOs.out.2, HOs.out.1, Hln.out, HLive.out]; rfl
                rw [List.take_add_one, h1, List.getElem?_eq_getElem hjr]; rfl)
              have HFin := Lib.hid (show (⟨fixU T F os i, s.used, F, s.semi⟩ : AS) = collectS s T rts from by
                have e1 : fixU T F os i = os.map (fixOb T F) := by have := fixU_all T F os; rwa [HOl.out] at this
                unfold collectS
                rw [e1, HOs.out.2, HOs.out.1, Hln.out, ← HLive.out])
              have HN := Lib.hid ((HU.out.nil 2))
              go_wp2_with fail
              go_loopw [20, 21] (fun u x21 wz => ∃ (j : Nat), j ≤ lr ∧ x21 = .int .i64 j ∧ (∀ g, u.ownBlock = some g → w.heap.size ≤ g) ∧ Rx w wz R q R6 ⟨fixU T F os i, s.used, F, s.semi⟩ [(u, 2, ((collectR s T rts).take j).map (Value.int .i64)), (.slice an i cn, 2, (adrs os i).map (Value.int .i64)), (.slice a2 i c2, 2, live.map (Value.int .i64))]) (fun _ x21 _ => (lr - intOf x21).toNat)
              case atStart => exact ⟨0, by omega, rfl, by simp [Value.ownBlock], HN.out⟩
              case round =>
                obtain ⟨j, hj, rfl, hun, hx⟩ := hrel
                have HQ := Lib.hid (And.intro hun hx)
                clear hun hx
                have hcl : ((collectR s T rts).take j).length = j := by
                  rw [List.length_take]; unfold collectR; rw [List.length_map, ← Hlr.out]; omega
                have hru := HQ.out.2.head
                rw [List.length_map, hcl] at hru
                obtain ⟨au, cu, rfl⟩ := row_form hru
                have Hru := Lib.hid (And.intro hru hcl)
                clear hru hcl
                by_cases hjl : j < lr
                · have hrr := HQ.out.2.fr.row H.out.2.2.2.1 H.out.2.2.2.2.2.2.2
                  obtain ⟨gr, dr, _, er, _, _, _⟩ := row_addr hrr (by omega)
                  simp only [Value.slice.injEq, true_and] at er
                  obtain ⟨rfl, rfl⟩ := er
                  have hcell := row_int hrr hjl
                  have HTk := Lib.hid (HRt.out j hjl)
                  obtain ⟨y, hy⟩ : ∃ y, y = rts[j]?.getD 0 := ⟨_, rfl⟩
                  rw [← hy] at hcell HTk
                  have hro8 := HQ.out.2.rowI (v := .slice a2 i c2) (e := 2) (k := .i64) (xs := live) (by simp)
                  rw [← Hln.out] at hro8
                  have HI8 := Lib.hid (row_ints hro8 (fun a ha => isOb_I64 H.out.2.1 (HLg.out.2 a ha)))
                  have HPl := Lib.hid (show placeOf i (fun j => live[j]?.getD 0) y = (if y ∈ live then ((live.idxOf y : Nat) : Int) else -1) from by
                    unfold placeOf
                    rw [Hln.out, standsIn_idx]
                    by_cases hul : y ∈ live
                    · rw [if_pos hul, if_pos hul]
                    · rw [if_neg hul, if_neg hul])
                  have HFu := Lib.hid (show F y = if y ∈ live then some (adr os (live.idxOf y)) else none from by
                    rw [HOs.out.2]; unfold toK
                    rw [List.take_of_length_le (by rw [← Hln.out]; exact Nat.le_refl _)])
                  clear hrr hy hro8
                  go_wp2_with fail
                  refine (place_at_any _ _ _ _ y _ HI8.out).mono ?_
                  rintro e w8 ⟨rfl, rfl⟩
                  by_cases hul : y ∈ live
                  · rw [HPl.out, if_pos hul]
                    obtain ⟨ix, hix⟩ : ∃ ix, ix = live.idxOf y := ⟨_, rfl⟩
                    have hixl : ix < i := by rw [hix, Hln.out]; exact List.idxOf_lt_length_of_mem hul
                    have HV := Lib.hid (show (F y).getD 0 = adr os ix from by rw [HFu.out, if_pos hul, ← hix]; rfl)
                    rw [← hix]
                    have hrn9 := HQ.out.2.rowI (v := .slice an i cn) (e := 2) (k := .i64) (xs := adrs os i) (by simp)
                    rw [adrs_length] at hrn9
                    obtain ⟨gn, dn, _, en, _, _, _⟩ := row_addr hrn9 (by omega)
                    simp only [Value.slice.injEq, true_and] at en
                    obtain ⟨rfl, rfl⟩ := en
                    have hcn9 := row_int hrn9 hixl
                    rw [adrs_at os hixl] at hcn9
                    obtain ⟨va9, hva9⟩ : ∃ va9, va9 = adr os ix := ⟨_, rfl⟩
                    rw [← hva9] at hcn9 HV
                    clear hix hul hrn9 hva9
                    go_wp2_with (first | (at_builtin; refine wpList_append_own_at _ rfl _ _ 38 rfl 0 2 i2 (.int .i64 0) 1 8 und38 hi2 hz2 hs2 hb2 rfl (by decide) _ _ _ rfl (Hru.out.1.alloc _) ⟨w8.heap.size, 0, none⟩ 1 1 [.int .i64 va9] rfl rfl (fun j u hu => cell_one_new _ _ _ j u hu) (by intro u hu; simp at hu; subst hu; rfl) (by unfold maxLen; omega) (by omega) (Nat.zero_le _) ?_))
                    intro v7 w7 hown7 hgr7 _ hloc7
                    have HG := Lib.hid (HQ.out.2.appended HQ.out.1 (by rw [List.length_map, Hru.out.2, List.map_take]; exact hown7) hgr7 (by simpa using hloc7))
                    clear hown7 hgr7 hloc7
                    go_wp2
                    go_roundw
                    case rel => exact ⟨j + 1, by omega, by go_num, HG.out.2, by rw [HTk.out, HV.out, List.map_append]; exact HG.out.1⟩
                    case measure => simp [intOf]; omega
                  · rw [HPl.out, if_neg hul]
                    have HV := Lib.hid (show (F y).getD 0 = 0 from by rw [HFu.out, if_neg hul]; rfl)
                    clear hul
                    go_wp2_with (first | (at_builtin; refine wpList_append_own_at _ rfl _ _ 38 rfl 0 2 i2 (.int .i64 0) 1 8 und38 hi2 hz2 hs2 hb2 rfl (by decide) _ _ _ rfl (Hru.out.1.alloc _) ⟨w8.heap.size, 0, none⟩ 1 1 [.int .i64 0] rfl rfl (fun j u hu => cell_one_new _ _ _ j u hu) (by intro u hu; simp at hu; subst hu; rfl) (by unfold maxLen; omega) (by omega) (Nat.zero_le _) ?_))
                    intro v7 w7 hown7 hgr7 _ hloc7
                    have HG := Lib.hid (HQ.out.2.appended HQ.out.1 (by rw [List.length_map, Hru.out.2, List.map_take]; exact hown7) hgr7 (by simpa using hloc7))
                    clear hown7 hgr7 hloc7
                    go_wp2
                    go_roundw
                    case rel => exact ⟨j + 1, by omega, by go_num, HG.out.2, by rw [HTk.out, HV.out, List.map_append]; exact HG.out.1⟩
                    case measure => simp [intOf]; omega
                · obtain rfl : lr = j := by omega
                  have HZ := Lib.hid (show (collectR s T rts).take lr = collectR s T rts from List.take_of_length_le (by unfold collectR; rw [List.length_map, ← Hlr.out]; exact Nat.le_refl _))
                  go_wp2
                  go_ret2
                  refine ⟨_, rfl, ?_, HQ.out.1, R6, by rw [← HFin.out]; exact HQ.out.2.ref, HQ.out.2.fr, HQ.out.2.sub, (HQ.out.2.rows _ List.mem_cons_self).2⟩
                  have h7 := Hru.out.1
                  rw [HZ.out] at h7
                  exact h7
end Go.Proofs.Ytniifefmjdjebaa
