/- The collector in plain words: which slots hold addresses, what roots lead to. No program in sight. · Walks: a table's Refs, by the program and by the document. · Walks: gc.refs. · Walks: gc.Reach's closure. · Walks: gc.Reach. · The collector in plain words: what a collection leaves. No program in sight. · Walks: gc.Collect. · gc.Collect: the state that its walk keeps. · Plain reads of a map; the objects of a collection, turned one after the other. · Walks: gc.Collect, when it may. · Walk: the law's known, chapter 16. -/
import Derived.Test.YtniifefmjdjebaaKB
import Derived.Test.YtniifefmjdjebaaKF
import Derived.Deep.RegionHeld3
namespace Go.Proofs.Ytniifefmjdjebaa
open Go.RowKit
set_option linter.unusedVariables false
set_option linter.unusedSimpArgs false

/-- A list with one more, if it is wanted and not yet there. -/
def addN (p : Int → Bool) (out : List Int) (x : Int) : List Int := if p x = true ∧ x ∉ out then out ++ [x] else out
def addAll (p : Int → Bool) (out l : List Int) : List Int := l.foldl (addN p) out
theorem addN_mem {p : Int → Bool} {out : List Int} {x y : Int} : y ∈ addN p out x ↔ y ∈ out ∨ (y = x ∧ p x = true) := by
  unfold addN
  by_cases h : p x = true ∧ x ∉ out
  · rw [if_pos h, List.mem_append, List.mem_singleton]
    exact ⟨fun e => e.imp id (fun e => ⟨e, h.1⟩), fun e => e.imp id (fun e => e.1)⟩
  · rw [if_neg h]
    refine ⟨.inl, fun e => e.elim id (fun ⟨e, hp⟩ => ?_)⟩
    subst e
    exact Classical.byContradiction (fun hn => h ⟨hp, hn⟩)
theorem addN_skip {p : Int → Bool} {out : List Int} {x : Int} (h : x ∈ out ∨ p x = false) : addN p out x = out := by
  unfold addN; rw [if_neg]
  rintro ⟨h1, h2⟩
  rcases h with h | h
  · exact h2 h
  · rw [h] at h1; cases h1
theorem addN_new {p : Int → Bool} {out : List Int} {x : Int} (h : p x = true) (hn : x ∉ out) : addN p out x = out ++ [x] := if_pos ⟨h, hn⟩
theorem addN_nodup {p : Int → Bool} {out : List Int} {x : Int} (h : out.Nodup) : (addN p out x).Nodup := by
  unfold addN
  split
  · rename_i hx
    rw [List.nodup_append]
    refine ⟨h, List.pairwise_singleton _ _, fun a ha b hb e => ?_⟩
    simp only [List.mem_singleton] at hb
    subst hb; subst e; exact hx.2 ha
  · exact h
theorem addN_prefix (p : Int → Bool) (out : List Int) (x : Int) : out <+: addN p out x := by
  unfold addN; split
  · exact List.prefix_append _ _
  · exact List.prefix_refl _
theorem addAll_mem {p : Int → Bool} : ∀ {l out : List Int} {y : Int}, y ∈ addAll p out l ↔ y ∈ out ∨ (y ∈ l ∧ p y = true)
  | [], out, y => by simp [addAll]
  | x :: l, out, y => by
    have ih := addAll_mem (p := p) (l := l) (out := addN p out x) (y := y)
    rw [show addAll p out (x :: l) = addAll p (addN p out x) l from rfl, ih, addN_mem, List.mem_cons]
    constructor
    · rintro ((h | ⟨rfl, h⟩) | ⟨h1, h2⟩)
      · exact .inl h
      · exact .inr ⟨.inl rfl, h⟩
      · exact .inr ⟨.inr h1, h2⟩
    · rintro (h | ⟨rfl | h1, h2⟩)
      · exact .inl (.inl h)
      · exact .inl (.inr ⟨rfl, h2⟩)
      · exact .inr ⟨h1, h2⟩
theorem addAll_nodup {p : Int → Bool} : ∀ {l out : List Int}, out.Nodup → (addAll p out l).Nodup
  | [], _, h => h
  | x :: l, out, h => addAll_nodup (l := l) (addN_nodup h)
theorem addAll_prefix (p : Int → Bool) : ∀ (l out : List Int), out <+: addAll p out l
  | [], _ => List.prefix_refl _
  | x :: l, out => (addN_prefix p out x).trans (addAll_prefix p l (addN p out x))
theorem addAll_append (p : Int → Bool) (out l r : List Int) : addAll p out (l ++ r) = addAll p (addAll p out l) r := List.foldl_append
/-- Which slots of a kind a table tells. -/
def refsT (T : List (List Int)) (kind slots : Int) : List Int :=
  if 0 ≤ kind ∧ kind < T.length then T[kind.toNat]?.getD [] else if 0 ≤ kind ∨ kind % 2 ≠ 0 then [] else (List.range slots.toNat).map Int.ofNat
/-- Is it a slot of so many? -/
def inB (xn : Nat) (n : Int) : Bool := decide (0 ≤ n ∧ n < xn)
theorem inB_true {xn : Nat} {n : Int} (h0 : 0 ≤ n) (h1 : n < xn) : inB xn n = true := decide_eq_true ⟨h0, h1⟩
theorem inB_false {xn : Nat} {n : Int} (h : ¬ (0 ≤ n ∧ n < xn)) : inB xn n = false := decide_eq_false h
/-- Those that there are, each once. -/
def refsG (T : List (List Int)) (x : Ob) : List Int := addAll (inB x.vs.length) [] (refsT T x.kind x.vs.length)
theorem refsT_len (T : List (List Int)) (kind : Int) (slots : Nat) (h : ∀ xs ∈ T, xs.length ≤ 30) (hs : slots ≤ 65536) : (refsT T kind slots).length ≤ 65536 := by
  unfold refsT
  split
  · cases hx : T[kind.toNat]? with
    | none => simp
    | some xs =>
      have := h xs (List.mem_of_getElem? hx)
      simp only [Option.getD_some]; omega
  · split
    · simp
    · simp; omega
/-- Does an object lie there? -/
def isOb (s : AS) (a : Int) : Bool := (findOb 0 s.used a).isSome
/-- What an object's slots tell, one after the other. -/
def leads (x : Ob) (ns : List Int) : List Int := ns.map fun n => getV (some x) n
def stepB (s : AS) (T : List (List Int)) (out : List Int) (i : Nat) : List Int :=
  match out[i]? with
  | none => out
  | some a => match findOb 0 s.used a with
    | none => out
    | some x => addAll (isOb s) out (leads x (refsG T x))
/-- What roots lead to, when i objects have been looked into. -/
def reachK (s : AS) (T : List (List Int)) (roots : List Int) : Nat → List Int
  | 0 => addAll (isOb s) [] roots
  | i + 1 => stepB s T (reachK s T roots i) i
def reach (s : AS) (T : List (List Int)) (roots : List Int) : List Int := reachK s T roots s.used.length
theorem reachK_good (s : AS) (T : List (List Int)) (roots : List Int) : ∀ i, (reachK s T roots i).Nodup ∧ ∀ a ∈ reachK s T roots i, isOb s a = true
  | 0 => ⟨addAll_nodup List.nodup_nil, fun a ha => by
      rcases addAll_mem.1 ha with h | h
      · cases h
      · exact h.2⟩
  | i + 1 => by
    have ih := reachK_good s T roots i
    show (stepB s T (reachK s T roots i) i).Nodup ∧ ∀ a ∈ stepB s T (reachK s T roots i) i, isOb s a = true
    unfold stepB
    split
    · exact ih
    · split
      · exact ih
      · refine ⟨addAll_nodup ih.1, fun a ha => ?_⟩
        rcases addAll_mem.1 ha with h | h
        · exact ih.2 a h
        · exact h.2
theorem nodup_sub_len : ∀ (l m : List Int), l.Nodup → (∀ a ∈ l, a ∈ m) → l.length ≤ m.length
  | [], _, _, _ => Nat.zero_le _
  | a :: l, m, h, hs => by
    have ha := hs a List.mem_cons_self
    have h1 := nodup_sub_len l (m.erase a) (List.nodup_cons.1 h).2 (fun b hb => by
      have hne : b ≠ a := fun e => (List.nodup_cons.1 h).1 (e ▸ hb)
      exact (List.mem_erase_of_ne hne).2 (hs b (List.mem_cons_of_mem _ hb)))
    rw [List.length_erase_of_mem ha] at h1
    have := List.length_pos_of_mem ha
    simp only [List.length_cons]
    omega
theorem reachK_len (s : AS) (T : List (List Int)) (roots : List Int) (i : Nat) : (reachK s T roots i).length ≤ s.used.length := by
  obtain ⟨h1, h2⟩ := reachK_good s T roots i
  rw [← addrs_length s.used 0]
  exact nodup_sub_len _ _ h1 (fun a ha => (mem_addrs s.used 0 a).2 (h2 a ha))
theorem reachK_stays (s : AS) (T : List (List Int)) (roots : List Int) (i : Nat) (h : (reachK s T roots i).length ≤ i) : ∀ j, i ≤ j → reachK s T roots j = reachK s T roots i := by
  intro j hj
  induction j with
  | zero => obtain rfl : i = 0 := by omega
            rfl
  | succ j ih =>
    rcases Nat.lt_or_ge i (j + 1) with h1 | h1
    · have e := ih (by omega)
      show stepB s T (reachK s T roots j) j = _
      rw [e]
      unfold stepB
      rw [List.getElem?_eq_none (by omega)]
    · obtain rfl : i = j + 1 := by omega
      rfl
/-- Where the walk ends. -/
theorem reachK_end (s : AS) (T : List (List Int)) (roots : List Int) (i : Nat) (h : (reachK s T roots i).length ≤ i) : reachK s T roots i = reach s T roots := by
  unfold reach
  rcases Nat.le_total i s.used.length with h1 | h1
  · exact (reachK_stays s T roots i h _ h1).symm
  · exact reachK_stays s T roots _ (reachK_len s T roots _) _ h1
end Go.Proofs.Ytniifefmjdjebaa
namespace Go.Proofs.Ytniifefmjdjebaa
open Go.RowKit
set_option linter.unusedVariables false
set_option linter.unusedSimpArgs false

/-- A table on the heap, in blocks D. -/
structure TabIs (w : World) (v : Value) (T : List (List Int)) (D : Nat → Prop) (rs : List Value) : Prop where
  row : w.ownsRow 0 22 1 v T.length rs
  rows : ∀ (i : Nat) (r : Value) (xs : List Int), rs[i]? = some r → T[i]? = some xs → w.ownsRow 0 3 1 r xs.length (xs.map (Value.int .i64)) ∧ ∀ n ∈ xs, I64 n
  inD : ∀ k, v.ownBlock = some k → D k
  inR : ∀ r ∈ rs, ∀ k, r.ownBlock = some k → D k
  small : T.length ≤ 20 ∧ ∀ xs ∈ T, xs.length ≤ 30
theorem TabIs.len {w : World} {v : Value} {T : List (List Int)} {D : Nat → Prop} {rs : List Value} (h : TabIs w v T D rs) : rs.length = T.length := by simpa using h.row.1
theorem TabIs.keep {S : Nat → Prop} {w w' : World} {v : Value} {T : List (List Int)} {D : Nat → Prop} {rs : List Value} (h : TabIs w v T D rs) (hf : Fr S w w') (hd : ∀ k, D k → ¬ S k) : TabIs w' v T D rs :=
  ⟨hf.row h.row (fun k hk => hd k (h.inD k hk)), fun i r xs hr hx => ⟨hf.row (h.rows i r xs hr hx).1 (fun k hk => hd k (h.inR r (List.mem_of_getElem? hr) k hk)), (h.rows i r xs hr hx).2⟩, h.inD, h.inR, h.small⟩
/-- A row that is told: its cells, and nothing turned. -/
def ToldRow (w w' : World) (e : TypeId) (xs : List Value) (en : Ending) : Prop := ∃ v, en = .returned v ∧ w'.ownsRow 0 e 1 v xs.length xs ∧ Fr (fun _ => False) w w'
/-- The first k numbers. -/
def upTo (k : Nat) : List Value := (List.range k).map fun (i : Nat) => Value.int .i64 (i : Int)
theorem upTo_succ (k : Nat) : upTo k ++ [.int .i64 (k : Int)] = upTo (k + 1) := by unfold upTo; rw [List.range_succ, List.map_append]; rfl
theorem upTo_length (k : Nat) : (upTo k).length = k := by simp [upTo]
set_option maxRecDepth 100000 in
set_option maxHeartbeats 1000000 in
theorem tabRefs_any (v : Value) (T : List (List Int)) (D : Nat → Prop) (rs : List Value) (kind slots : Int) (w : World) (h : TabIs w v T D rs) (hk : I64 kind) (hs : slots ≤ 65536) (hsl : -9223372036854775808 ≤ slots) :
    Calls Try.prog 44 #[v, .int .i64 kind, .int .i64 slots] w fun e w' => NewRow w w' 3 ((refsT T kind slots).map (Value.int .i64)) e := by
  obtain ⟨i3, hi3, hz3, hs3, hb3⟩ := info_parts info3
  obtain ⟨av, cv, rfl⟩ := row_form h.row
  have H := Lib.hid h
  have hk2 := hk
  obtain ⟨k1, k2⟩ := hk
  have htl : T.length ≤ 20 := h.small.1
  obtain ⟨n, hn⟩ : ∃ n, n = T.length := ⟨_, rfl⟩
  have Hn := Lib.hid hn
  rw [← hn] at htl ⊢
  clear h hn hk2
  by_cases h0 : 0 ≤ kind
  · by_cases h1 : kind < n
    · obtain ⟨i, rfl⟩ := Int.eq_ofNat_of_zero_le h0
      have hiT : i < T.length := by rw [← Hn.out]; omega
      have hr := H.out.row
      rw [← Hn.out] at hr
      obtain ⟨g, c, _, e1, _, _, _⟩ := row_addr hr (by omega)
      simp only [Value.slice.injEq, true_and] at e1
      obtain ⟨rfl, rfl⟩ := e1
      have hir : i < rs.length := by rw [H.out.len]; exact hiT
      obtain ⟨r, hr1⟩ : ∃ r, r = rs[i] := ⟨_, rfl⟩
      have hr2 : rs[i]? = some r := by rw [List.getElem?_eq_getElem hir, hr1]
      have hcell := row_cell hr hr2
      obtain ⟨xs, hxs⟩ : ∃ xs, T[i]? = some xs := ⟨_, List.getElem?_eq_getElem hiT⟩
      have hrr := H.out.rows i r xs hr2 hxs
      have HX := Lib.hid (show refsT T i slots = xs from by unfold refsT; rw [if_pos ⟨by omega, by omega⟩, Int.toNat_natCast, hxs]; rfl)
      have hxl := H.out.small.2 xs (List.mem_of_getElem? hxs)
      have HR := Lib.hid hrr.1
      obtain ⟨ar, cr, rfl⟩ := row_form hrr.1
      clear hr hrr hiT hir hr1 hr2 hxs
      go_enter Try.func44, Try.ntmps44
      go_wp2_with fail
      refine (cloneI_any _ (xs.map (Value.int .i64)) _ (by simpa only [List.length_map] using HR.out) (by simp [Value.oneCell']) (by rw [List.length_map]; omega)).mono ?_
      intro e w1 hnr
      obtain ⟨v1, rfl, q1, q2, q3⟩ := hnr
      have HN := Lib.hid (show NewRow w w1 3 ((refsT T i slots).map (Value.int .i64)) (.returned v1) from by rw [HX.out]; exact ⟨v1, rfl, q1, q2, q3⟩)
      clear q1 q2 q3
      go_wp2
      go_ret
      exact HN.out
    · have HX := Lib.hid (show refsT T kind slots = [] from by unfold refsT; rw [if_neg (by have := Hn.out; omega), if_pos (.inl h0)])
      go_enter Try.func44, Try.ntmps44
      go_wp2
      go_ret
      rw [HX.out]
      exact ⟨_, rfl, World.ownsRow_nil _ _ _ _, Fr.refl _ _, by simp [Value.ownBlock]⟩
  · by_cases h1 : kind % 2 = 0
    · have HX := Lib.hid (show refsT T kind slots = (List.range slots.toNat).map Int.ofNat from by unfold refsT; rw [if_neg (by omega), if_neg (by omega)])
      have ht : Int.tmod kind 2 = 0 := by rw [← Int.dvd_iff_tmod_eq_zero]; exact Int.dvd_of_emod_eq_zero h1
      have hb : (Int.tmod kind 2 != 0) = false := by rw [ht]; rfl
      go_enter Try.func44, Try.ntmps44
      go_wp2_with fail
      go_loopw [7, 32] (fun u i wr => ∃ k : Nat, (k : Int) ≤ max slots 0 ∧ i = .int .i64 k ∧ Onto w wr 3 nilRow u (upTo k)) (fun _ i _ => (max slots 0 - intOf i).toNat)
      case atStart => exact ⟨0, by omega, rfl, Onto.refl (World.ownsRow_nil _ _ _ _)⟩
      case round =>
        obtain ⟨k, hk, rfl, ho⟩ := hrel
        have HO := Lib.hid ho; clear ho
        by_cases hlt : (k : Int) < slots
        · have hr := HO.out.1
          rw [upTo_length] at hr
          have Hr := Lib.hid hr
          have Hk1 := Lib.hid (upTo_succ k)
          clear hr
          go_wp2_with (first | (at_builtin; refine wpList_append_own_at _ rfl _ _ 22 rfl 0 3 i3 (.int .i64 0) 1 8 und22 hi3 hz3 hs3 hb3 rfl (by decide) _ _ _ rfl (Hr.out.alloc _) ⟨wr.heap.size, 0, none⟩ 1 1 [.int .i64 k] rfl rfl ?c1 ?c2 ?c3 ?c4 ?c5 ?_))
          case c1 => exact cell_one_new _ _ _
          case c2 => intro u hu; simp at hu; subst hu; rfl
          case c3 => unfold maxLen; omega
          case c4 => omega
          case c5 => exact Nat.zero_le _
          intro v7 w7 hown7 hgr7 _ hloc7
          have HG := Lib.hid (HO.out.trans (Onto.one (x := .int .i64 (k : Int)) (by rw [upTo_length]; exact hown7) hgr7 (by simpa using hloc7)))
          clear hown7 hgr7 hloc7
          go_wp2
          go_roundw
          case rel => exact ⟨k + 1, by omega, by go_num, by rw [← Hk1.out]; exact HG.out⟩
          case measure => simp [intOf]; omega
        · have Hfin := Lib.hid (show NewRow w wr 3 ((refsT T kind slots).map (Value.int .i64)) (.returned u7) from by
            rw [HX.out, show slots.toNat = k from by omega, List.map_map]
            have h1 := HO.out.1
            exact ⟨_, rfl, h1, HO.out.fr, fun g hg => HO.out.new hg⟩)
          go_wp2
          go_ret
          exact Hfin.out
    · have HX := Lib.hid (show refsT T kind slots = [] from by unfold refsT; rw [if_neg (by omega), if_pos (.inr h1)])
      have ht : ¬ Int.tmod kind 2 = 0 := fun e => h1 (Int.emod_eq_zero_of_dvd (Int.dvd_iff_tmod_eq_zero.2 e))
      have hb : (Int.tmod kind 2 != 0) = true := by simpa using ht
      go_enter Try.func44, Try.ntmps44
      go_wp2
      go_ret
      rw [HX.out]
      exact ⟨_, rfl, World.ownsRow_nil _ _ _ _, Fr.refl _ _, by simp [Value.ownBlock]⟩
end Go.Proofs.Ytniifefmjdjebaa
namespace Go.Proofs.Ytniifefmjdjebaa
open Go.RowKit
set_option linter.unusedVariables false
set_option linter.unusedSimpArgs false
theorem und131 : Try.prog.underlying 131 = some (.map 3 3) := by kernel_rfl
theorem i64k3 : Try.prog.underlying 3 = some (.int .i64) := by kernel_rfl
theorem method_refs (a1 : Option Addr) (l1 c1 : Nat) (w : World) : (method 248 61 (.slice a1 l1 c1) "Refs").run Try.prog w = .ok (44, .slice a1 l1 c1) w := by kernel_rfl
set_option maxRecDepth 100000 in
set_option maxHeartbeats 1000000 in
theorem refs_any (p : Nat) (a1 : Option Addr) (l1 c1 : Nat) (a : Int) (S : Nat → Prop) (s : AS) (x : Ob) (T : List (List Int)) (D : Nat → Prop) (rs : List Value) (w : World) (h : IsArena w p S s) (hx : findOb 0 s.used a = some x) (ht : TabIs w (.slice a1 l1 c1) T D rs) :
    Calls Try.prog 78 #[.pointer (some ⟨p, 0, none⟩), .iface 61 (.slice a1 l1 c1), .int .i64 a] w fun e w' => NewRow w w' 3 ((refsG T x).map (Value.int .i64)) e := by
  have hmm := @run_makeMap Try.prog
  have hme := method_refs a1 l1 c1
  have hok : x.ok := by
    obtain ⟨l1, l2, hl, _⟩ := findOb_split _ _ _ _ hx
    exact h.good.used x (by rw [hl]; simp)
  have hvl := hok.2.1
  have H := Lib.hid (And.intro h (And.intro hx (And.intro ht hok))); clear h ht hx hok
  go_enter Try.func78, Try.ntmps78
  go_wp2_with fail
  refine (Kind_any p a S s _ H.out.1).mono ?_
  rw [H.out.2.1, show kindOf (some x) = x.kind from rfl, show errI (some x) = 0 from rfl]
  rintro e w1 ⟨rfl, rfl⟩
  go_wp2_with fail
  refine (Slots_any p a S s _ H.out.1).mono ?_
  rw [H.out.2.1, show slotsOf (some x) = (x.vs.length : Int) from rfl, show errI (some x) = 0 from rfl]
  rintro e w2 ⟨rfl, rfl⟩
  go_wp2_with fail
  have hf3 : Fr (fun _ => False) w2 (w2.alloc (.map #[] 0)) := Fr.alloc _ _ _
  have hm3 := IMap.made w2
  obtain ⟨w3, hw3⟩ : ∃ w3, w3 = w2.alloc (.map #[] 0) := ⟨_, rfl⟩
  rw [← hw3] at hf3 hm3 ⊢
  have Hm3 := Lib.hid (And.intro hf3 (And.intro hm3 (show w3.heap.size = w2.heap.size + 1 from by rw [hw3]; simp)))
  clear hw3 hf3 hm3 hmm hme
  refine (tabRefs_any _ T D rs x.kind x.vs.length w3 (H.out.2.2.1.keep Hm3.out.1 (fun _ _ h => h)) H.out.2.2.2.1 (by omega) (by omega)).mono ?_
  rintro e w4 ⟨v4, rfl, q1, q2, q3⟩
  obtain ⟨L, hL⟩ : ∃ L, L = refsT T x.kind x.vs.length := ⟨_, rfl⟩
  rw [← hL, List.length_map] at q1
  obtain ⟨a4, c4, rfl⟩ := row_form q1
  have HL := Lib.hid hL
  have H4 := Lib.hid (And.intro q1 (And.intro q2 q3))
  have hll : L.length ≤ maxLen := by
    rcases q1.2 with ⟨_, h0⟩ | ⟨g, cap, cur, h1, _, h2, h3, h4, _⟩ <;> omega
  unfold maxLen at hll
  obtain ⟨n, hn⟩ : ∃ n, n = L.length := ⟨_, rfl⟩
  rw [← hn] at hll H4 ⊢
  have Hn := Lib.hid hn
  clear q1 q2 q3 hL hn
  obtain ⟨i3, hi3, hz3, hs3, hb3⟩ := info_parts info3
  obtain ⟨xn, hxn⟩ : ∃ xn, xn = x.vs.length := ⟨_, rfl⟩
  have Hxn := Lib.hid hxn
  rw [← hxn] at hvl ⊢
  clear hxn
  obtain ⟨mb, hmb⟩ : ∃ mb, mb = w2.heap.size := ⟨_, rfl⟩
  have Hmb := Lib.hid hmb
  rw [← hmb] at Hm3 ⊢
  clear hmb
  have hn64 : n ≤ 65536 := by rw [Hn.out, HL.out]; exact refsT_len T x.kind _ H.out.2.2.1.small.2 (by rw [← Hxn.out]; exact hvl)
  clear hll
  go_wp2_with fail
  go_loopw [11, 35] (fun v i wr => ∃ (k : Nat) (f : Int → Option Int) (out : List Int), k ≤ n ∧ i = .int .i64 k ∧ out = addAll (inB xn) [] (L.take k) ∧ out.length ≤ k ∧ wr.ownsRow 0 3 1 v out.length (out.map (Value.int .i64)) ∧ (∀ g, v.ownBlock = some g → w4.heap.size ≤ g) ∧ IMap wr mb f ∧ (∀ y, (f y).isSome = decide (y ∈ out)) ∧ Fr (fun j => j = mb) w4 wr) (fun _ i _ => (n - intOf i).toNat)
  case atStart =>
    exact ⟨0, fun _ => none, [], by omega, rfl, rfl, by simp, World.ownsRow_nil _ _ _ _, by simp [Value.ownBlock], H4.out.2.1.imap Hm3.out.2.1 id, by simp, Fr.refl _ _⟩
  case round =>
    obtain ⟨k, f, out, hk, rfl, r1, r2, r3, r4, r5, r6, r7⟩ := hrel
    have HK := Lib.hid (And.intro r1 (And.intro r3 (And.intro r4 (And.intro r5 (And.intro r6 r7)))))
    clear r1 r4 r6
    by_cases hlt : k < n
    · have hr := r7.row H4.out.1 (fun g hg e => by
        have := H4.out.2.2 g hg
        have := Hm3.out.2.2
        have := Hmb.out
        omega)
      obtain ⟨g, c, _, e1, _, _, _⟩ := row_addr hr (by omega)
      simp only [Value.slice.injEq, true_and] at e1
      obtain ⟨rfl, rfl⟩ := e1
      have hcell := row_int hr hlt
      have htk := Lib.hid (show addAll (inB xn) [] (L.take (k + 1)) = addN (inB xn) out (L[k]?.getD 0) from by
        have hkL : k < L.length := by rw [← Hn.out]; exact hlt
        rw [List.take_succ_eq_append_getElem hkL, addAll_append, ← HK.out.1, List.getElem?_eq_getElem hkL]; rfl)
      have hlook := r5.look und131 i64k3 zero3 (L[k]?.getD 0)
      obtain ⟨y, hy⟩ : ∃ y, y = L[k]?.getD 0 := ⟨_, rfl⟩
      rw [← hy] at hcell htk hlook
      rw [HK.out.2.2.2.2.1 y] at hlook
      clear hr hy r3 r7
      obtain ⟨z, hz⟩ : ∃ z, z = (f y).getD 0 := ⟨_, rfl⟩
      rw [← hz] at hlook
      clear hz
      by_cases hin : y ∈ out
      · rw [decide_eq_true hin] at hlook
        have HA := Lib.hid (show addN (inB xn) out y = out from addN_skip (.inl hin))
        clear hin r5
        go_wp2
        go_roundw
        case rel => exact ⟨k + 1, f, out, by omega, by go_num, by rw [htk.out, HA.out], by omega, HK.out.2⟩
        case measure => simp [intOf]; omega
      · rw [decide_eq_false hin] at hlook
        by_cases hy0 : 0 ≤ y
        · by_cases hy1 : y < xn
          · have HA := Lib.hid (show addN (inB xn) out y = out ++ [y] from addN_new (inB_true hy0 hy1) hin)
            obtain ⟨o, ho1, ho2⟩ := r5.put und131 i64k3 y out.length
            obtain ⟨ao, co, hu⟩ := row_form HK.out.2.1
            subst hu
            have hup := ho1 wr rfl
            have him := ho2 wr rfl
            have hf6 : Fr (fun j => j = mb) wr (ChangeMaps.setBlock wr mb o) := Fr.setBlock wr mb o rfl
            obtain ⟨W6, hW6⟩ : ∃ W, W = ChangeMaps.setBlock wr mb o := ⟨_, rfl⟩
            rw [← hW6] at hup him hf6
            have hr6 := hf6.row HK.out.2.1 (fun g hg e => by
              have := HK.out.2.2.1 g hg
              have h5 := Hm3.out.2.1.lt
              have := H4.out.2.1.size
              omega)
            have Hr6 := Lib.hid (And.intro hr6 (And.intro him hf6))
            have Hin := Lib.hid hin
            clear hr6 him hf6 hW6 ho1 ho2 r5 hin
            go_wp2_with (first | (at_builtin; (refine wpList_append_own_at _ rfl _ _ 22 rfl 0 3 i3 (.int .i64 0) 1 8 und22 hi3 hz3 hs3 hb3 rfl (by decide) _ _ _ rfl (Hr6.out.1.alloc _) ⟨W6.heap.size, 0, none⟩ 1 1 [.int .i64 y] rfl rfl ?c1 ?c2 ?c3 ?c4 ?c5 ?_)))
            case c1 => exact cell_one_new _ _ _
            case c2 => intro u hu; simp at hu; subst hu; rfl
            case c3 => unfold maxLen; omega
            case c4 => omega
            case c5 => exact Nat.zero_le _
            intro v7 w7 hown7 hgr7 _ hloc7
            have HG := Lib.hid (And.intro hown7 (And.intro hgr7 hloc7))
            clear hown7 hgr7 hloc7
            go_wp2
            go_roundw
            case rel =>
              have hf7 : Fr (fun j => (Value.slice ao out.length co).ownBlock = some j) W6 w7 := Fr.of_grown (grown_trans (World.grownBy_alloc W6 _ _) HG.out.2.1) (fun k hk => hk)
              have hmlt : mb < w4.heap.size := Nat.lt_of_lt_of_le Hm3.out.2.1.lt H4.out.2.1.size
              have hne : (Value.slice ao out.length co).ownBlock ≠ some mb := fun e => by have := HK.out.2.2.1 mb e; omega
              have hsz := HK.out.2.2.2.2.2.size
              have hsz6 := Hr6.out.2.2.size
              refine ⟨k + 1, _, out ++ [y], by omega, by go_num, by rw [htk.out, HA.out], by simp; omega, by simpa using HG.out.1, fun g hg => ?_, hf7.imap Hr6.out.2.1 hne, fun y' => ?_, (HK.out.2.2.2.2.2.trans Hr6.out.2.2 (fun _ h => h) (fun _ _ h => h)).trans hf7 (fun _ h => h) (fun i hi e => by have := HK.out.2.2.1 i e; omega)⟩
              · rcases HG.out.2.2 with h4 | h4
                · exact HK.out.2.2.1 g (h4 ▸ hg)
                · rw [h4] at hg; simp at hg; omega
              · by_cases hyy : y' = y
                · subst hyy; simp
                · have h9 := HK.out.2.2.2.2.1 y'
                  show (if y' = y then some (out.length : Int) else f y').isSome = decide (y' ∈ out ++ [y])
                  rw [if_neg hyy, h9]
                  simp [hyy]
            case measure => simp [intOf]; omega
          · have HA := Lib.hid (show addN (inB xn) out y = out from addN_skip (.inr (inB_false (fun h => hy1 h.2))))
            clear hin r5
            go_wp2
            go_roundw
            case rel => exact ⟨k + 1, f, out, by omega, by go_num, by rw [htk.out, HA.out], by omega, HK.out.2⟩
            case measure => simp [intOf]; omega
        · have HA := Lib.hid (show addN (inB xn) out y = out from addN_skip (.inr (inB_false (fun h => hy0 h.1))))
          clear hin r5
          go_wp2
          go_roundw
          case rel => exact ⟨k + 1, f, out, by omega, by go_num, by rw [htk.out, HA.out], by omega, HK.out.2⟩
          case measure => simp [intOf]; omega
    · obtain rfl : k = n := by omega
      have Hfin := Lib.hid (show NewRow w2 wr 3 ((refsG T x).map (Value.int .i64)) (.returned u11) from by
        have e1 : out = refsG T x := by
          rw [HK.out.1, Hn.out, List.take_length, HL.out, Hxn.out]; rfl
        have hmlt : mb < w4.heap.size := Nat.lt_of_lt_of_le Hm3.out.2.1.lt H4.out.2.1.size
        have s1 := Hm3.out.1.size
        have s2 := H4.out.2.1.size
        refine ⟨_, rfl, by rw [← e1, List.length_map]; exact HK.out.2.1, ?_, fun g hg => by have := HK.out.2.2.1 g hg; omega⟩
        exact (Hm3.out.1.trans H4.out.2.1 (fun _ h => h) (fun _ _ h => h)).trans HK.out.2.2.2.2.2 (fun _ h => h) (fun i hi e => by have := Hmb.out; omega))
      clear r3 r5 r7
      go_wp2
      go_ret
      exact Hfin.out
end Go.Proofs.Ytniifefmjdjebaa
namespace Go.Proofs.Ytniifefmjdjebaa
open Go.RowKit
set_option linter.unusedVariables false
set_option linter.unusedSimpArgs false
/-- What Reach keeps: three boxes and a map, beside what was there. -/
structure MSt' (w0 wr : World) (p ba bs bo mb : Nat) (out : List Int) (v : Value) (f : Int → Option Int) (kb : Option (Nat × Obj)) : Prop where
  ca : wr.heap[ba]? = some (.cells #[.pointer (some ⟨p, 0, none⟩)] 25 (0, 0))
  cs : wr.heap[bs]? = some (.cells #[.map (some mb)] 87 (0, 0))
  co : wr.heap[bo]? = some (.cells #[v] 38 (0, 0))
  im : IMap wr mb f
  hf : ∀ y, (f y).isSome = decide (y ∈ out)
  row : wr.ownsRow 0 2 1 v out.length (out.map (Value.int .i64))
  new : ∀ g, v.ownBlock = some g → w0.heap.size ≤ g
  na : w0.heap.size ≤ ba
  ns : w0.heap.size ≤ bs
  no : w0.heap.size ≤ bo
  nm : w0.heap.size ≤ mb
  fr : Fr (fun _ => False) w0 wr
  kp : ∀ k o, kb = some (k, o) → wr.heap[k]? = some o ∧ k ≠ mb ∧ k ≠ bo ∧ v.ownBlock ≠ some k
def MSt (w0 wr : World) (p ba bs bo mb : Nat) (out : List Int) (kb : Option (Nat × Obj)) : Prop := ∃ v f, MSt' w0 wr p ba bs bo mb out v f kb
theorem cells_ne_imap {w : World} {b m : Nat} {cs : Array Value} {t : TypeId} {fz : Nat × Nat} {f : Int → Option Int} (h : w.heap[b]? = some (.cells cs t fz)) (hm : IMap w m f) : b ≠ m := by
  obtain ⟨es, c, hb, _⟩ := hm
  rintro rfl
  rw [h] at hb; simp at hb
theorem row_ne_blk {w : World} {base e size n : Nat} {v : Value} {xs : List Value} {b : Nat} {cs : Array Value} {t : TypeId} {fz : Nat × Nat} (h : w.ownsRow base e size v n xs) (hb : w.heap[b]? = some (.cells cs t fz)) (ht : t ≠ e) : v.ownBlock ≠ some b := by
  intro hk
  obtain ⟨cur, hc⟩ := row_cells h hk
  exact ht (blk_ty hb hc)
theorem blk_ne {w : World} {a b : Nat} {c1 c2 : Array Value} {t1 t2 : TypeId} {f1 f2 : Nat × Nat} (ha : w.heap[a]? = some (.cells c1 t1 f1)) (hb : w.heap[b]? = some (.cells c2 t2 f2)) (ht : t1 ≠ t2) : a ≠ b := by
  rintro rfl
  exact ht (blk_ty ha hb)
theorem MSt.drewN {w0 wr : World} {p ba bs bo mb : Nat} {out : List Int} {kb : Option (Nat × Obj)} (h : MSt w0 wr p ba bs bo mb out kb) (n : Nat) : MSt w0 (wr.drewN n) p ba bs bo mb out kb := by
  obtain ⟨v, f, h⟩ := h
  exact ⟨v, f, h.ca, h.cs, h.co, h.im, h.hf, h.row, h.new, h.na, h.ns, h.no, h.nm, h.fr.trans (Fr.drewN _ wr n) (fun _ h => h) (fun _ _ h => h), h.kp⟩
theorem MSt.kept {w0 wr w' : World} {p ba bs bo mb : Nat} {out : List Int} {kb : Option (Nat × Obj)} (h : MSt w0 wr p ba bs bo mb out kb) (hf : Fr (fun _ => False) wr w') : MSt w0 w' p ba bs bo mb out kb := by
  obtain ⟨v, f, h⟩ := h
  exact ⟨v, f, hf.heap h.ca id, hf.heap h.cs id, hf.heap h.co id, hf.imap h.im id, h.hf, hf.row h.row (fun _ _ h => h), h.new, h.na, h.ns, h.no, h.nm, h.fr.trans hf (fun _ h => h) (fun _ _ h => h), fun k o e => ⟨hf.heap (h.kp k o e).1 id, (h.kp k o e).2⟩⟩
set_option maxRecDepth 100000 in
set_option maxHeartbeats 1000000 in
theorem meet_any (p ba bs bo mb : Nat) (y : Int) (out : List Int) (S : Nat → Prop) (s : AS) (w0 w : World) (kb : Option (Nat × Obj)) (h : IsArena w0 p S s) (hm : MSt w0 w p ba bs bo mb out kb) (hl : out.length ≤ 1048576) :
    Calls Try.prog 79 #[.int .i64 y, .pointer (some ⟨ba, 0, none⟩), .pointer (some ⟨bs, 0, none⟩), .pointer (some ⟨bo, 0, none⟩)] w fun e w' => e = .returned (.tuple #[]) ∧ MSt w0 w' p ba bs bo mb (addN (isOb s) out y) kb := by
  obtain ⟨i2, hi2, hz2, hs2, hb2⟩ := info_parts info2
  obtain ⟨v, f, h1⟩ := hm
  obtain ⟨ao, co, rfl⟩ := row_form h1.row
  have H := Lib.hid (And.intro h1 (h.keep h1.fr (fun _ _ h => h)))
  have ca := blk_cell h1.ca 0
  have cs := blk_cell h1.cs 0
  have co' := blk_cell h1.co 0
  simp only [List.getElem?_toArray, List.getElem?_cons_succ, List.getElem?_cons_zero] at ca cs co'
  have hfo : ∀ j, w.frozen? ⟨bo, j, none⟩ = false := fun j => blk_free h1.co j
  have hlook := h1.im.look und87 i64k zero3 y
  rw [h1.hf y] at hlook
  obtain ⟨z, hz⟩ : ∃ z, z = (f y).getD 0 := ⟨_, rfl⟩
  rw [← hz] at hlook
  clear hz h h1
  cases hx : findOb 0 s.used y with
  | none =>
    have HA := Lib.hid (show addN (isOb s) out y = out from addN_skip (.inr (by unfold isOb; rw [hx]; rfl)))
    have HX := Lib.hid hx
    clear hx
    go_enter Try.func79, Try.ntmps79
    go_wp2_with fail
    refine (Kind_any p y S s _ H.out.2).mono ?_
    rw [HX.out, show kindOf none = 0 from rfl, show errI none = 57 from rfl]
    rintro e w1 ⟨rfl, rfl⟩
    go_wp2
    refine bodyPost_ret (results_none rfl _ _ _) rfl ?_
    exact ⟨rfl, by rw [HA.out]; exact ⟨_, f, H.out.1⟩⟩
  | some x =>
    have HX := Lib.hid hx
    clear hx
    by_cases hin : y ∈ out
    · rw [decide_eq_true hin] at hlook
      have HA := Lib.hid (show addN (isOb s) out y = out from addN_skip (.inl hin))
      clear hin
      go_enter Try.func79, Try.ntmps79
      go_wp2_with fail
      refine (Kind_any p y S s _ H.out.2).mono ?_
      rw [HX.out, show errI (some x) = 0 from rfl, show kindOf (some x) = x.kind from rfl]
      rintro e w1 ⟨rfl, rfl⟩
      go_wp2
      go_end0
      exact ⟨rfl, by rw [HA.out]; exact ⟨_, f, H.out.1⟩⟩
    · rw [decide_eq_false hin] at hlook
      have HA := Lib.hid (show addN (isOb s) out y = out ++ [y] from addN_new (by unfold isOb; rw [HX.out]; rfl) hin)
      clear hin
      obtain ⟨o, ho1, ho2⟩ := H.out.1.im.put und87 i64k y out.length
      have hup := ho1 w rfl
      have him := ho2 w rfl
      have hf6 : Fr (fun j => j = mb) w (ChangeMaps.setBlock w mb o) := Fr.setBlock w mb o rfl
      obtain ⟨W6, hW6⟩ : ∃ W, W = ChangeMaps.setBlock w mb o := ⟨_, rfl⟩
      rw [← hW6] at hup him hf6
      have hr6 := hf6.row H.out.1.row (fun g hg e => row_ne_imap H.out.1.row H.out.1.im (e ▸ hg.symm))
      have hco6 := hf6.heap H.out.1.co (cells_ne_imap H.out.1.co H.out.1.im)
      have hca6 := hf6.heap H.out.1.ca (cells_ne_imap H.out.1.ca H.out.1.im)
      have hcs6 := hf6.heap H.out.1.cs (cells_ne_imap H.out.1.cs H.out.1.im)
      have c6 := blk_cell hco6 0
      simp only [List.getElem?_toArray, List.getElem?_cons_zero] at c6
      have H6 := Lib.hid (And.intro hr6 (And.intro hco6 (And.intro hca6 (And.intro hcs6 (And.intro him hf6)))))
      clear hr6 hco6 hca6 hcs6 him hf6 ho1 ho2 hW6
      go_enter Try.func79, Try.ntmps79
      go_wp2_with fail
      refine (Kind_any p y S s _ H.out.2).mono ?_
      rw [HX.out, show errI (some x) = 0 from rfl, show kindOf (some x) = x.kind from rfl]
      rintro e w1 ⟨rfl, rfl⟩
      go_wp2_with (first | (at_builtin; refine wpList_append_own_at _ rfl _ _ 38 rfl 0 2 i2 (.int .i64 0) 1 8 und38 hi2 hz2 hs2 hb2 rfl (by decide) _ _ _ rfl (H6.out.1.alloc _) ⟨W6.heap.size, 0, none⟩ 1 1 [.int .i64 y] rfl rfl ?c1 ?c2 ?c3 ?c4 ?c5 ?_))
      case c1 => exact cell_one_new _ _ _
      case c2 => intro u hu; simp at hu; subst hu; rfl
      case c3 => unfold maxLen; omega
      case c4 => omega
      case c5 => exact Nat.zero_le _
      intro v7 w7 hown7 hgr7 _ hloc7
      obtain ⟨a7, k7, rfl⟩ := row_form hown7
      have hf7 : Fr (fun j => (Value.slice ao out.length co).ownBlock = some j) W6 w7 := Fr.of_grown (grown_trans (World.grownBy_alloc W6 _ _) hgr7) (fun k hk => hk)
      have hco7 := hf7.heap H6.out.2.1 (row_ne_blk H6.out.1 H6.out.2.1 (by decide))
      have c7 := blk_cell hco7 0
      simp only [List.getElem?_toArray, List.getElem?_cons_zero] at c7
      have hf7z : ∀ j, w7.frozen? ⟨bo, j, none⟩ = false := fun j => blk_free hco7 j
      have HG := Lib.hid (And.intro hown7 (And.intro hloc7 (And.intro hf7 hco7)))
      clear hown7 hgr7 hloc7 hf7 hco7 c6 co' hfo
      go_wp2
      go_end0
      obtain ⟨g1, g2, g3, g4⟩ := HG.out
      obtain ⟨k1, k2, k3, k4, k5, k6⟩ := H6.out
      obtain ⟨m1, _⟩ := H.out
      have hf8 : Fr (fun j => j = bo) w7 (w7.setCell ⟨bo, 0, none⟩ (.slice a7 (out.length + 1) k7)) := Fr.setCell w7 _ _ rfl
      have hnew : ∀ g, (Value.slice a7 (out.length + 1) k7).ownBlock = some g → w0.heap.size ≤ g := fun g hg => by
        rcases g2 with h4 | h4
        · exact m1.new g (h4 ▸ hg)
        · rw [h4] at hg; simp at hg
          have := m1.fr.size; have := k6.size; omega
      have hca7 := g3.heap k3 (row_ne_blk k1 k3 (by decide))
      have hcs7 := g3.heap k4 (row_ne_blk k1 k4 (by decide))
      have him7 := g3.imap k5 (fun e => row_ne_imap k1 k5 e.symm)
      refine ⟨rfl, ?_⟩
      rw [HA.out]
      refine ⟨_, _, hf8.heap hca7 (blk_ne hca7 g4 (by decide)), hf8.heap hcs7 (blk_ne hcs7 g4 (by decide)), ?_, hf8.imap him7 (fun e => cells_ne_imap g4 him7 e.symm), fun y' => ?_, ?_, hnew, m1.na, m1.ns, m1.no, m1.nm, ?_, fun k o e => ?_⟩
      · have := heap_setCell_same w7 bo 0 _ 38 (.slice a7 (out.length + 1) k7) g4
        rw [this]; rfl
      · show (if y' = y then some (out.length : Int) else f y').isSome = decide (y' ∈ out ++ [y])
        by_cases hyy : y' = y
        · subst hyy; simp
        · rw [if_neg hyy, m1.hf y']; simp [hyy]
      · have := hf8.row g1 (fun k hk e => row_ne_blk g1 g4 (by decide) (e ▸ hk))
        simpa using this
      · have h1 := m1.fr.trans k6 (U := fun _ => False) (fun _ h => h) (fun i hi e => by have := m1.nm; omega)
        have h2 := h1.trans g3 (U := fun _ => False) (fun _ h => h) (fun i hi e => by have := m1.new i e; omega)
        exact h2.trans hf8 (fun _ h => h) (fun i hi e => by have := m1.no; omega)
      · obtain ⟨n1, n2, n3, n4⟩ := m1.kp k o e
        have hlt := (Array.getElem?_eq_some_iff.1 n1).1
        refine ⟨hf8.heap (g3.heap (k6.heap n1 n2) n4) n3, n2, n3, fun hk => ?_⟩
        rcases g2 with h4 | h4
        · exact n4 (h4 ▸ hk)
        · rw [h4] at hk; simp at hk
          have := k6.size; omega
theorem MSt.none {w0 wr : World} {p ba bs bo mb : Nat} {out : List Int} {kb : Option (Nat × Obj)} (h : MSt w0 wr p ba bs bo mb out kb) : MSt w0 wr p ba bs bo mb out .none := by
  obtain ⟨v, f, h⟩ := h
  exact ⟨v, f, h.ca, h.cs, h.co, h.im, h.hf, h.row, h.new, h.na, h.ns, h.no, h.nm, h.fr, fun k o e => by cases e⟩
/-- A row beside, in one block. -/
def rowKb (w : World) (v : Value) : Option (Nat × Obj) := match v.ownBlock with | .none => .none | some k => (w.heap[k]?).map fun o => (k, o)
theorem row_same {w w' : World} {base e size n : Nat} {v : Value} {xs : List Value} (h : w.ownsRow base e size v n xs) (hs : ∀ k, v.ownBlock = some k → w'.heap[k]? = w.heap[k]?) : w'.ownsRow base e size v n xs := by
  refine ⟨h.1, ?_⟩
  rcases h.2 with h1 | ⟨g, cap, cur, rfl, hb, hg, rest⟩
  · exact .inl h1
  · exact .inr ⟨g, cap, cur, rfl, hb, (hs g rfl).trans hg, rest⟩
theorem MSt.withRow {w0 wr : World} {p ba bs bo mb : Nat} {out : List Int} {kb : Option (Nat × Obj)} {v5 : Value} {n : Nat} {xs : List Value} (h : MSt w0 wr p ba bs bo mb out kb) (hr : wr.ownsRow 0 3 1 v5 n xs) : MSt w0 wr p ba bs bo mb out (rowKb wr v5) := by
  obtain ⟨v, f, h⟩ := h
  refine ⟨v, f, h.ca, h.cs, h.co, h.im, h.hf, h.row, h.new, h.na, h.ns, h.no, h.nm, h.fr, fun k o e => ?_⟩
  unfold rowKb at e
  cases hv : v5.ownBlock with
  | none => rw [hv] at e; cases e
  | some g =>
    rw [hv] at e
    obtain ⟨cur, hc⟩ := row_cells hr hv
    simp only [hc, Option.map_some, Option.some.injEq, Prod.mk.injEq] at e
    obtain ⟨rfl, rfl⟩ := e
    refine ⟨hc, fun e => row_ne_imap hr h.im (e ▸ hv.symm), fun e => row_ne_blk hr h.co (by decide) (e ▸ hv), fun e => ?_⟩
    obtain ⟨cur', hc'⟩ := row_cells h.row e
    exact absurd (blk_ty hc hc') (by decide)
theorem MSt.rowIn {w0 w5 wr : World} {p ba bs bo mb : Nat} {out : List Int} {v5 : Value} {n : Nat} {xs : List Value} (h : MSt w0 wr p ba bs bo mb out (rowKb w5 v5)) (hr : w5.ownsRow 0 3 1 v5 n xs) : wr.ownsRow 0 3 1 v5 n xs := by
  obtain ⟨v, f, h⟩ := h
  refine row_same hr (fun k hk => ?_)
  obtain ⟨cur, hc⟩ := row_cells hr hk
  rw [hc]
  refine (h.kp k _ ?_).1
  unfold rowKb
  simp only [hk, hc, Option.map_some]
end Go.Proofs.Ytniifefmjdjebaa
namespace Go.Proofs.Ytniifefmjdjebaa
open Go.RowKit
set_option linter.unusedVariables false
set_option linter.unusedSimpArgs false
theorem addAll_len (s : AS) (l : List Int) : (addAll (isOb s) [] l).length ≤ s.used.length := by
  rw [← addrs_length s.used 0]
  refine nodup_sub_len _ _ (addAll_nodup List.nodup_nil) (fun a ha => (mem_addrs s.used 0 a).2 ?_)
  rcases addAll_mem.1 ha with h | h
  · cases h
  · exact h.2
theorem reachK_addAll (s : AS) (T : List (List Int)) (roots : List Int) (i : Nat) (l : List Int) : (addAll (isOb s) (reachK s T roots i) l).length ≤ s.used.length := by
  obtain ⟨h1, h2⟩ := reachK_good s T roots i
  rw [← addrs_length s.used 0]
  refine nodup_sub_len _ _ (addAll_nodup h1) (fun a ha => (mem_addrs s.used 0 a).2 ?_)
  rcases addAll_mem.1 ha with h | h
  · exact h2 a h
  · exact h.2
theorem MSt'.mst {w0 wr : World} {p ba bs bo mb : Nat} {out : List Int} {v : Value} {f : Int → Option Int} {kb : Option (Nat × Obj)} (h : MSt' w0 wr p ba bs bo mb out v f kb) : MSt w0 wr p ba bs bo mb out kb := ⟨v, f, h⟩
set_option maxRecDepth 100000 in
set_option maxHeartbeats 2000000 in
theorem Reach_any (p : Nat) (a1 : Option Addr) (l1 c1 : Nat) (rv : Value) (rts : List Int) (S : Nat → Prop) (s : AS) (T : List (List Int)) (D : Nat → Prop) (rs : List Value) (w : World) (h : IsArena w p S s) (ht : TabIs w (.slice a1 l1 c1) T D rs) (hr : w.ownsRow 0 2 1 rv rts.length (rts.map (Value.int .i64))) :
    Calls Try.prog 51 #[.pointer (some ⟨p, 0, none⟩), .iface 61 (.slice a1 l1 c1), rv] w fun e w' => NewRow w w' 2 ((reach s T rts).map (Value.int .i64)) e := by
  have hmm := @run_makeMap Try.prog
  have hul : s.used.length ≤ 1048576 := Nat.le_trans (len_le_tot s.used) (Nat.le_trans h.good.fits h.good.hi)
  obtain ⟨ar, cr, rfl⟩ := row_form hr
  have H := Lib.hid (And.intro h (And.intro ht hr))
  have hll : rts.length ≤ maxLen := by
    rcases hr.2 with ⟨_, h0⟩ | ⟨g, cap, cur, h1, _, h2, h3, h4, _⟩ <;> omega
  unfold maxLen at hll
  clear h ht hr
  obtain ⟨lr, hlr⟩ : ∃ n, n = rts.length := ⟨_, rfl⟩
  have Hlr := Lib.hid hlr
  rw [← hlr] at H hll ⊢
  clear hlr
  go_enter Try.func51, Try.ntmps51
  go_wp2_with fail
  have hst : MSt w ((((w.alloc (.cells #[.pointer (some ⟨p, 0, none⟩)] 25)).alloc (.cells #[.slice none 0 0] 38)).alloc (.map #[] 0)).alloc (.cells #[.map (some (w.heap.size + 1 + 1))] 87)) p w.heap.size (w.heap.size + 1 + 1 + 1) (w.heap.size + 1) (w.heap.size + 1 + 1) [] none := by
    have e1 := heap_alloc_new w (.cells #[.pointer (some ⟨p, 0, none⟩)] 25)
    have e2 := heap_alloc_new (w.alloc (.cells #[.pointer (some ⟨p, 0, none⟩)] 25)) (.cells #[.slice none 0 0] 38)
    have e3 := IMap.made ((w.alloc (.cells #[.pointer (some ⟨p, 0, none⟩)] 25)).alloc (.cells #[.slice none 0 0] 38))
    have e4 := heap_alloc_new (((w.alloc (.cells #[.pointer (some ⟨p, 0, none⟩)] 25)).alloc (.cells #[.slice none 0 0] 38)).alloc (.map #[] 0)) (.cells #[.map (some (w.heap.size + 1 + 1))] 87)
    have f1 := Fr.alloc (fun _ => False) w (.cells #[.pointer (some ⟨p, 0, none⟩)] 25)
    have f2 := Fr.alloc (fun _ => False) (w.alloc (.cells #[.pointer (some ⟨p, 0, none⟩)] 25)) (.cells #[.slice none 0 0] 38)
    have f3 := Fr.alloc (fun _ => False) ((w.alloc (.cells #[.pointer (some ⟨p, 0, none⟩)] 25)).alloc (.cells #[.slice none 0 0] 38)) (.map #[] 0)
    have f4 := Fr.alloc (fun _ => False) (((w.alloc (.cells #[.pointer (some ⟨p, 0, none⟩)] 25)).alloc (.cells #[.slice none 0 0] 38)).alloc (.map #[] 0)) (.cells #[.map (some (w.heap.size + 1 + 1))] 87)
    rw [show (w.alloc (.cells #[.pointer (some ⟨p, 0, none⟩)] 25)).heap.size = w.heap.size + 1 from by simp] at e2
    rw [show ((w.alloc (.cells #[.pointer (some ⟨p, 0, none⟩)] 25)).alloc (.cells #[.slice none 0 0] 38)).heap.size = w.heap.size + 1 + 1 from by simp] at e3
    rw [show (((w.alloc (.cells #[.pointer (some ⟨p, 0, none⟩)] 25)).alloc (.cells #[.slice none 0 0] 38)).alloc (.map #[] 0)).heap.size = w.heap.size + 1 + 1 + 1 from by simp] at e4
    exact ⟨.slice none 0 0, fun _ => none, f4.heap (f3.heap (f2.heap e1 id) id) id, e4, f4.heap (f3.heap e2 id) id, f4.imap e3 id, fun y => by simp, World.ownsRow_nil _ _ _ _, by simp [Value.ownBlock], by omega, by omega, by omega, by omega,
      ((f1.trans f2 (fun _ h => h) (fun _ _ h => h)).trans f3 (fun _ h => h) (fun _ _ h => h)).trans f4 (fun _ h => h) (fun _ _ h => h), fun k o e => by cases e⟩
  obtain ⟨ba, hba⟩ : ∃ n, n = w.heap.size := ⟨_, rfl⟩
  obtain ⟨w1, hw1⟩ : ∃ W, W = ((((w.alloc (.cells #[.pointer (some ⟨p, 0, none⟩)] 25)).alloc (.cells #[.slice none 0 0] 38)).alloc (.map #[] 0)).alloc (.cells #[.map (some (w.heap.size + 1 + 1))] 87)) := ⟨_, rfl⟩
  rw [← hw1] at hst ⊢
  clear hw1
  rw [← hba] at hst ⊢
  obtain ⟨bo, hbo⟩ : ∃ n, n = ba + 1 := ⟨_, rfl⟩
  obtain ⟨mb, hmb⟩ : ∃ n, n = ba + 1 + 1 := ⟨_, rfl⟩
  obtain ⟨bs, hbs⟩ : ∃ n, n = ba + 1 + 1 + 1 := ⟨_, rfl⟩
  rw [← hbs, ← hmb, ← hbo] at hst ⊢
  have HS := Lib.hid hst
  clear hst hba hbo hmb hbs hmm
  go_wp2_with fail
  go_loopw [21] (fun i wr => ∃ k : Nat, k ≤ lr ∧ i = .int .i64 k ∧ MSt w wr p ba bs bo mb (addAll (isOb s) [] (rts.take k)) none) (fun i _ => (lr - intOf i).toNat)
  case atStart => exact ⟨0, by omega, rfl, HS.out⟩
  case round =>
    obtain ⟨k, hk, rfl, hm⟩ := hrel
    have HM := Lib.hid hm; clear hm
    by_cases hlt : k < lr
    · have hrow : wr.ownsRow 0 2 1 (.slice ar lr cr) lr (rts.map (Value.int .i64)) := by
        obtain ⟨v, f, h1⟩ := HM.out
        exact h1.fr.row H.out.2.2 (fun _ _ h => h)
      obtain ⟨g, c, _, e1, _, _, _⟩ := row_addr hrow (by omega)
      simp only [Value.slice.injEq, true_and] at e1
      obtain ⟨rfl, rfl⟩ := e1
      have hcell := row_int hrow hlt
      have Htk := Lib.hid (show addAll (isOb s) [] (rts.take (k + 1)) = addN (isOb s) (addAll (isOb s) [] (rts.take k)) (rts[k]?.getD 0) from by
        have hkL : k < rts.length := by rw [← Hlr.out]; exact hlt
        rw [List.take_succ_eq_append_getElem hkL, addAll_append, List.getElem?_eq_getElem hkL]; rfl)
      have hol := addAll_len s (rts.take k)
      obtain ⟨y, hy⟩ : ∃ y, y = rts[k]?.getD 0 := ⟨_, rfl⟩
      rw [← hy] at hcell Htk
      clear hy hrow
      go_wp2_with fail
      refine (meet_any p ba bs bo mb y _ S s w _ none H.out.1 HM.out (by omega)).mono ?_
      rintro e w2 ⟨rfl, hm2⟩
      rw [← Htk.out] at hm2
      have HM2 := Lib.hid hm2
      clear hm2 hcell hol
      go_wp2
      go_roundw
      case rel => exact ⟨k + 1, by omega, by go_num, HM2.out⟩
      case measure => simp [intOf]; omega
    · obtain rfl : k = lr := by omega
      have HM2 := Lib.hid (show MSt w wr p ba bs bo mb (reachK s T rts 0) none from by have := HM.out; rw [Hlr.out, List.take_length] at this; exact this)
      go_wp2_with fail
      go_loopw [12] (fun i wr => ∃ k : Nat, k ≤ (reachK s T rts k).length ∧ i = .int .i64 k ∧ MSt w wr p ba bs bo mb (reachK s T rts k) none) (fun i _ => (s.used.length + 1 - intOf i).toNat)
      case atStart => exact ⟨0, Nat.zero_le _, rfl, HM2.out⟩
      case round =>
        obtain ⟨i, hi, rfl, hm⟩ := hrel
        have hol := reachK_len s T rts i
        obtain ⟨v, f, hm1⟩ := hm
        obtain ⟨av, cv, rfl⟩ := row_form hm1.row
        have cbo := blk_cell hm1.co 0
        have cba := blk_cell hm1.ca 0
        simp only [List.getElem?_toArray, List.getElem?_cons_zero] at cbo cba
        obtain ⟨out, hout⟩ : ∃ out, out = reachK s T rts i := ⟨_, rfl⟩
        rw [← hout] at hm1 cbo hi hol
        have Hout := Lib.hid hout
        have HM := Lib.hid hm1
        clear hout
        by_cases hlt : i < out.length
        · have hrow := hm1.row
          obtain ⟨g, c, _, e1, _, _, _⟩ := row_addr hrow (by omega)
          simp only [Value.slice.injEq, true_and] at e1
          obtain ⟨rfl, rfl⟩ := e1
          have hcell := row_int hrow hlt
          obtain ⟨y, hy⟩ : ∃ y, y = out[i]?.getD 0 := ⟨_, rfl⟩
          rw [← hy] at hcell
          have hyo : out[i]? = some y := by rw [hy, List.getElem?_eq_getElem hlt]; rfl
          have hob : isOb s y = true := by
            have := (reachK_good s T rts i).2 y
            rw [← Hout.out] at this
            exact this (List.mem_of_getElem? hyo)
          obtain ⟨x, hx⟩ := Option.isSome_iff_exists.1 hob
          have HY := Lib.hid (And.intro hyo hx)
          clear hy hyo hob hx hrow hm1
          go_wp2_with fail
          have HD := Lib.hid (HM.out.mst.drewN 1)
          have hfd : Fr (fun _ => False) w (wr.drewN 1) := HM.out.fr.trans (Fr.drewN _ wr 1) (fun _ h => h) (fun _ _ h => h)
          have HFd := Lib.hid hfd
          clear hfd
          have HCell := Lib.hid (And.intro cba (And.intro cbo hcell))
          go_region_held3 (fun w' => w'.cell? ⟨ba, 0, none⟩ = some (.pointer (some ⟨p, 0, none⟩)) ∧ w'.cell? ⟨bo, 0, none⟩ = some (.slice (some ⟨g, 0, none⟩) out.length cv) ∧ w'.cell? ⟨g, i, none⟩ = some (.int .i64 y))
            (first | exact HCell.out | exact ⟨H5.out.2.1.cell (w := wr.drewN 1) HCell.out.1 id, H5.out.2.1.cell (w := wr.drewN 1) HCell.out.2.1 id, H5.out.2.1.cell (w := wr.drewN 1) HCell.out.2.2 id⟩)
            (first | (go_at_call 78; refine (refs_any p a1 l1 c1 y S s x T D rs _ (H.out.1.keep HFd.out (fun _ _ h => h)) HY.out.2 (H.out.2.1.keep HFd.out (fun _ _ h => h))).mono ?_; rintro e w5 ⟨v5, rfl, q1, q2, q3⟩; rw [List.length_map] at q1; have H5 := Lib.hid (And.intro q1 (And.intro q2 q3)); obtain ⟨a5, c5, rfl⟩ := row_form q1; clear q1 q2 q3))
          have HM5 := Lib.hid (HD.out.kept (w' := w5) H5.out.2.1)
          clear cbo cba hcell
          obtain ⟨n5, hn5⟩ : ∃ n, n = (refsG T x).length := ⟨_, rfl⟩
          have Hn5 := Lib.hid hn5
          rw [← hn5] at H5 ⊢
          clear hn5
          have HK0 := Lib.hid (HM5.out.withRow H5.out.1)
          have hn5m : n5 ≤ maxLen := by
            rcases H5.out.1.2 with ⟨_, h0⟩ | ⟨_, cap, cur, h1, _, h2, h3, h4, _⟩ <;> omega
          unfold maxLen at hn5m
          go_wp2_with fail
          go_loopw [43] (fun q wr => ∃ j : Nat, j ≤ n5 ∧ q = .int .i64 j ∧ MSt w wr p ba bs bo mb (addAll (isOb s) out (leads x ((refsG T x).take j))) (rowKb w5 (.slice a5 n5 c5))) (fun q _ => (n5 - intOf q).toNat)
          case atStart => exact ⟨0, by omega, rfl, HK0.out⟩
          case round =>
            obtain ⟨j, hj, rfl, hmj⟩ := hrel
            by_cases hjl : j < n5
            · have hr5 := hmj.rowIn H5.out.1
              obtain ⟨g5, k5, _, e5, _, _, _⟩ := row_addr hr5 (by omega)
              simp only [Value.slice.injEq, true_and] at e5
              obtain ⟨rfl, rfl⟩ := e5
              have hcn := row_int hr5 hjl
              obtain ⟨v', f', h1⟩ := hmj
              obtain ⟨av', cv', rfl⟩ := row_form h1.row
              have cbo := blk_cell h1.co 0
              have cba := blk_cell h1.ca 0
              simp only [List.getElem?_toArray, List.getElem?_cons_zero] at cbo cba
              have hjr : j < (refsG T x).length := by rw [← Hn5.out]; exact hjl
              have Htk := Lib.hid (show addAll (isOb s) out (leads x ((refsG T x).take (j + 1))) = addN (isOb s) (addAll (isOb s) out (leads x ((refsG T x).take j))) (getV (some x) ((refsG T x)[j]?.getD 0)) from by
                rw [List.take_succ_eq_append_getElem hjr, leads, List.map_append, addAll_append, List.getElem?_eq_getElem hjr]; rfl)
              obtain ⟨m, hm⟩ : ∃ m, m = (refsG T x)[j]?.getD 0 := ⟨_, rfl⟩
              rw [← hm] at hcn Htk
              obtain ⟨o2, ho2⟩ : ∃ o2, o2 = addAll (isOb s) out (leads x ((refsG T x).take j)) := ⟨_, rfl⟩
              have hpre : o2[i]? = some y := by
                obtain ⟨t, ht⟩ := addAll_prefix (isOb s) (leads x ((refsG T x).take j)) out
                rw [ho2, ← ht, List.getElem?_append_left hlt]
                exact HY.out.1
              have ho2l : o2.length ≤ s.used.length := by rw [ho2, Hout.out]; exact reachK_addAll s T rts i _
              rw [← ho2] at h1 cbo Htk
              have hi2 : i < o2.length := (List.getElem?_eq_some_iff.1 hpre).1
              have hrow2 := h1.row
              obtain ⟨g2, k2, _, e2, _, _, _⟩ := row_addr hrow2 (by omega)
              simp only [Value.slice.injEq, true_and] at e2
              obtain ⟨rfl, rfl⟩ := e2
              have hcy := row_int hrow2 hi2
              rw [hpre, Option.getD_some] at hcy
              have HA := Lib.hid (H.out.1.keep h1.fr (fun _ _ h => h))
              have HM6 := Lib.hid h1.mst
              clear h1 hrow2 hpre ho2 hm hr5
              have HGet := Lib.hid (fun nq => Get_any p y m S s (wr.drewN nq) (HA.out.drewN nq))
              go_wp2_with fail
              go_quiet ((first | (go_at_call 32; exact Calls.quiet_of (HGet.out _))))
              rw [HY.out.2]
              obtain ⟨gv, hgv⟩ : ∃ gv, gv = getV (some x) m := ⟨_, rfl⟩
              obtain ⟨ge, hge⟩ : ∃ ge, ge = slotE (some x) m := ⟨_, rfl⟩
              rw [← hgv] at Htk ⊢
              rw [← hge]
              clear hgv hge
              have HM7 := Lib.hid (fun n => HM6.out.drewN n)
              go_wp2_with fail
              refine (meet_any p ba bs bo mb gv _ S s w _ _ H.out.1 (HM7.out _) (by omega)).mono ?_
              rintro e w8 ⟨rfl, hm8⟩
              rw [← Htk.out] at hm8
              have HM8 := Lib.hid hm8
              clear hm8
              go_wp2
              go_roundw
              case rel => exact ⟨j + 1, by omega, by go_num, HM8.out⟩
              case measure => simp [intOf]; omega
            · obtain rfl : j = n5 := by omega
              have hstep : reachK s T rts (i + 1) = addAll (isOb s) out (leads x (refsG T x)) := by
                show stepB s T (reachK s T rts i) i = _
                rw [← Hout.out]
                unfold stepB
                simp only [HY.out.1, HY.out.2]
              have hfin := hmj.none
              rw [Hn5.out, List.take_length, ← hstep] at hfin
              have hnl := reachK_len s T rts (i + 1)
              have hil : i + 1 ≤ (reachK s T rts (i + 1)).length := by
                rw [hstep]
                have := (addAll_prefix (isOb s) (leads x (refsG T x)) out).length_le
                omega
              have HF := Lib.hid (And.intro hfin hil)
              clear hfin hil hstep hmj
              go_wp2
              go_roundw
              case rel => exact ⟨i + 1, HF.out.2, by go_num, HF.out.1⟩
              case measure => simp [intOf]; omega
        · have hr1 : out = reach s T rts := by
            rw [Hout.out]
            exact reachK_end s T rts i (by rw [← Hout.out]; omega)
          have Hfin := Lib.hid (show NewRow w wr 2 ((reach s T rts).map (Value.int .i64)) (.returned (.slice av out.length cv)) from by
            refine ⟨_, rfl, ?_, HM.out.fr, fun g hg => HM.out.new g hg⟩
            rw [← hr1, List.length_map]
            exact HM.out.row)
          clear hr1 hm1
          go_wp2
          go_ret
          exact Hfin.out
end Go.Proofs.Ytniifefmjdjebaa
namespace Go.Proofs.Ytniifefmjdjebaa
open Go.RowKit
set_option linter.unusedVariables false
set_option linter.unusedSimpArgs false

/-- The object at an address. -/
def obAt (s : AS) (a : Int) : Ob := (findOb 0 s.used a).getD ⟨0, []⟩
/-- The objects of a list of addresses. -/
def objs (s : AS) (live : List Int) : List Ob := live.map (obAt s)
/-- Where an address goes, when the first k of the list have been copied. -/
def toK (live : List Int) (os : List Ob) (k : Nat) (a : Int) : Option Int := if a ∈ live.take k then some (adr os (live.idxOf a)) else none
/-- Slots that lead somewhere are turned, one after the other. -/
def fixVs (f : Int → Option Int) (vs : List Int) (ns : List Int) : List Int :=
  ns.foldl (fun vs n => match f (vs[n.toNat]?.getD 0) with | some now => vs.set n.toNat now | none => vs) vs
def fixOb (T : List (List Int)) (f : Int → Option Int) (x : Ob) : Ob := ⟨x.kind, fixVs f x.vs (refsG T x)⟩
/-- The arena behind a collection. -/
def collectS (s : AS) (T : List (List Int)) (roots : List Int) : AS :=
  ⟨(objs s (reach s T roots)).map (fixOb T (toK (reach s T roots) (objs s (reach s T roots)) (reach s T roots).length)), s.used, toK (reach s T roots) (objs s (reach s T roots)) (reach s T roots).length, s.semi⟩
def collectR (s : AS) (T : List (List Int)) (roots : List Int) : List Int := roots.map fun a => (toK (reach s T roots) (objs s (reach s T roots)) (reach s T roots).length a).getD 0
/-- May the roots be collected from? -/
def rootsOk (s : AS) (roots : List Int) : Prop := ∀ a ∈ roots, a = 0 ∨ isOb s a = true
theorem nodup_sub_sum (f : Int → Nat) : ∀ (l m : List Int), l.Nodup → (∀ a ∈ l, a ∈ m) → (l.map f).sum ≤ (m.map f).sum
  | [], _, _, _ => Nat.zero_le _
  | a :: l, m, h, hs => by
    have ha := hs a List.mem_cons_self
    have h1 := nodup_sub_sum f l (m.erase a) (List.nodup_cons.1 h).2 (fun b hb => by
      have hne : b ≠ a := fun e => (List.nodup_cons.1 h).1 (e ▸ hb)
      exact (List.mem_erase_of_ne hne).2 (hs b (List.mem_cons_of_mem _ hb)))
    have h2 : (m.map f).sum = f a + ((m.erase a).map f).sum := by
      have hp := (List.perm_cons_erase ha).map f
      rw [hp.sum_nat]
      simp
    simp only [List.map_cons, List.sum_cons]
    omega
theorem sum_addrs (s : AS) : ((addrs 0 s.used).map fun a => (obAt s a).size).sum = tot s.used := by
  have h : (addrs 0 s.used).map (fun a => (obAt s a).size) = s.used.map Ob.size := by
    apply List.ext_getElem?
    intro i
    rw [List.getElem?_map, List.getElem?_map]
    by_cases hi : i < s.used.length
    · have h1 : i < (addrs 0 s.used).length := by rw [addrs_length]; exact hi
      rw [List.getElem?_eq_getElem h1, List.getElem?_eq_getElem hi]
      have h2 := addrs_adr s.used i hi
      rw [List.getElem?_eq_getElem h1, Option.getD_some] at h2
      simp only [Option.map_some, h2, obAt, find_adr s.used i hi, Option.getD_some]
    · rw [List.getElem?_eq_none (by rw [addrs_length]; omega), List.getElem?_eq_none (by omega)]
      rfl
  rw [h]; rfl
theorem objs_tot (s : AS) (live : List Int) (h1 : live.Nodup) (h2 : ∀ a ∈ live, isOb s a = true) : tot (objs s live) ≤ tot s.used := by
  rw [← sum_addrs s]
  unfold objs tot
  rw [List.map_map]
  exact nodup_sub_sum _ _ _ h1 (fun a ha => (mem_addrs s.used 0 a).2 (h2 a ha))
theorem reach_good (s : AS) (T : List (List Int)) (roots : List Int) : (reach s T roots).Nodup ∧ ∀ a ∈ reach s T roots, isOb s a = true := reachK_good s T roots _
theorem objs_length (s : AS) (live : List Int) : (objs s live).length = live.length := by simp [objs]
theorem objs_at (s : AS) (live : List Int) (i : Nat) (a : Int) (h : live[i]? = some a) : (objs s live)[i]? = some (obAt s a) := by unfold objs; rw [List.getElem?_map, h]; rfl
theorem isOb_some {s : AS} {a : Int} (h : isOb s a = true) : findOb 0 s.used a = some (obAt s a) := by
  unfold isOb at h
  obtain ⟨x, hx⟩ := Option.isSome_iff_exists.1 h
  unfold obAt; rw [hx]; rfl
/-- The arena when k of the live objects have been copied. -/
def copyS (s : AS) (live : List Int) (k : Nat) : AS := ⟨(objs s live).take k, s.used, toK live (objs s live) k, s.semi⟩
theorem copyS_step (s : AS) (live : List Int) (k : Nat) (a : Int) (h1 : live.Nodup) (h2 : ∀ a ∈ live, isOb s a = true) (hg : s.Good) (ha : live[k]? = some a) :
    (copyS s live k).copyA a = adr (objs s live) k ∧ (copyS s live k).copyE a = 0 ∧ (copyS s live k).copy a = copyS s live (k + 1) := by
  have hk : k < live.length := (List.getElem?_eq_some_iff.1 ha).1
  have ha' : live[k] = a := (List.getElem?_eq_some_iff.1 ha).2
  have hko : k < (objs s live).length := by rw [objs_length]; exact hk
  have hf : findOb 0 (copyS s live k).ahead a = some (obAt s a) := isOb_some (h2 a (List.mem_of_getElem? ha))
  have hidx : live.idxOf a = k := by rw [← ha']; exact h1.idxOf_getElem k hk
  have hnot : a ∉ live.take k := by
    intro hm
    obtain ⟨j, hj, e⟩ := List.mem_take_iff_getElem.1 hm
    have hjk : j < k := by omega
    have e1 := h1.idxOf_getElem j (by omega)
    rw [e] at e1
    omega
  have hm : (copyS s live k).moved a = none := if_neg hnot
  have hx : (objs s live)[k] = obAt s a := by
    have := objs_at s live k a ha
    rw [List.getElem?_eq_getElem hko] at this
    exact Option.some.inj this
  have hok : (obAt s a).vs.length ≤ 65536 := by
    obtain ⟨l1, l2, hl, _⟩ := findOb_split _ _ _ _ (isOb_some (h2 a (List.mem_of_getElem? ha)))
    exact (hg.used _ (by rw [hl]; simp)).2.1
  have hroom : roomB (copyS s live k) (obAt s a).vs.length = true := by
    apply roomB_true
    have e1 := tot_take_succ (objs s live) k hko
    have e2 := tot_take_le (objs s live) (k + 1)
    have e3 := objs_tot s live h1 h2
    have e4 := hg.fits
    rw [hx] at e1
    show 0 ≤ _ ∧ _ ∧ _ ≤ ((s.semi : Nat) : Int) - ((tot ((objs s live).take k) : Nat) : Int)
    omega
  refine ⟨?_, ?_, ?_⟩
  · unfold AS.copyA; rw [hf, hm]; simp only [hroom, if_true]; rfl
  · unfold AS.copyE; rw [hf, hm]; simp only [hroom, if_true]
  · unfold AS.copy; rw [hf, hm]; simp only [hroom, if_true]
    unfold AS.copied copyS
    congr 1
    · simp only; rw [List.take_succ_eq_append_getElem hko, hx]
    · funext b
      simp only [toK]
      rw [List.take_succ_eq_append_getElem hk, ha']
      by_cases hb : b = a
      · subst hb
        rw [if_pos rfl, if_pos (by simp), hidx]; rfl
      · rw [if_neg hb]
        by_cases hbm : b ∈ live.take k
        · rw [if_pos hbm, if_pos (List.mem_append_left _ hbm)]
        · rw [if_neg hbm, if_neg (by simp [hbm, hb])]
end Go.Proofs.Ytniifefmjdjebaa
namespace Go.Proofs.Ytniifefmjdjebaa
open Go.RowKit
set_option linter.unusedVariables false
set_option linter.unusedSimpArgs false
set_option maxRecDepth 100000 in
set_option maxHeartbeats 2000000 in
theorem Collect_bad (p : Nat) (a1 : Option Addr) (l1 c1 : Nat) (rv : Value) (rts : List Int) (S : Nat → Prop) (s : AS) (w : World) (h : IsArena w p S s) (hr : w.ownsRow 0 2 1 rv rts.length (rts.map (Value.int .i64))) (hbad : ¬ rootsOk s rts) :
    Calls Try.prog 47 #[.pointer (some ⟨p, 0, none⟩), .iface 61 (.slice a1 l1 c1), rv] w fun e w' => e = .returned (.tuple #[.slice none 0 0, .int .i64 57]) ∧ w' = w := by
  obtain ⟨ar, cr, rfl⟩ := row_form hr
  have hll : rts.length ≤ maxLen := by
    rcases hr.2 with ⟨_, h0⟩ | ⟨g, cap, cur, h1, _, h2, h3, h4, _⟩ <;> omega
  unfold maxLen at hll
  have H := Lib.hid (And.intro h (And.intro hr hbad))
  clear h hr hbad
  obtain ⟨lr, hlr⟩ : ∃ n, n = rts.length := ⟨_, rfl⟩
  have Hlr := Lib.hid hlr
  rw [← hlr] at H hll ⊢
  clear hlr
  go_enter Try.func47, Try.ntmps47
  go_wp2_with fail
  go_loopw [29] (fun i wr => ∃ k : Nat, k ≤ lr ∧ i = .int .i64 k ∧ wr = w ∧ ∀ a ∈ rts.take k, a = 0 ∨ isOb s a = true) (fun i _ => (lr - intOf i).toNat)
  case atStart => exact ⟨0, by omega, rfl, rfl, by simp⟩
  case round =>
    obtain ⟨k, hk, rfl, rfl, hok⟩ := hrel
    have HOk := Lib.hid hok; clear hok
    by_cases hlt : k < lr
    · have hrow := H.out.2.1
      obtain ⟨g, c, _, e1, _, _, _⟩ := row_addr hrow (by omega)
      simp only [Value.slice.injEq, true_and] at e1
      obtain ⟨rfl, rfl⟩ := e1
      have hcell := row_int hrow hlt
      have Htk := Lib.hid (show ∀ y, y = rts[k]?.getD 0 → (y = 0 ∨ isOb s y = true) → ∀ a ∈ rts.take (k + 1), a = 0 ∨ isOb s a = true from by
        intro y hy hyo a ha
        have hkL : k < rts.length := by rw [← Hlr.out]; exact hlt
        rw [List.take_succ_eq_append_getElem hkL] at ha
        rcases List.mem_append.1 ha with ha | ha
        · exact HOk.out a ha
        · simp only [List.mem_singleton] at ha
          rw [List.getElem?_eq_getElem hkL, Option.getD_some] at hy
          rw [ha, ← hy]; exact hyo)
      obtain ⟨y, hy⟩ : ∃ y, y = rts[k]?.getD 0 := ⟨_, rfl⟩
      rw [← hy] at hcell
      have Hy := Lib.hid hy
      clear hy hrow
      cases hx : findOb 0 s.used y with
      | some x =>
        have HX := Lib.hid hx
        have HN := Lib.hid (Htk.out y Hy.out (.inr (by unfold isOb; rw [hx]; rfl)))
        clear hx
        go_wp2_with fail
        refine (Kind_any p y S s _ H.out.1).mono ?_
        rw [HX.out, show kindOf (some x) = x.kind from rfl, show errI (some x) = 0 from rfl]
        rintro e w1 ⟨rfl, rfl⟩
        clear hcell
        go_wp2
        all_goals (
          go_roundw
          case rel => exact ⟨k + 1, by omega, by go_num, by trivial, HN.out⟩
          case measure => simp [intOf]; omega)
      | none =>
        have HX := Lib.hid hx
        clear hx
        by_cases hy0 : y = 0
        · have HN := Lib.hid (Htk.out y Hy.out (.inl hy0))
          subst hy0
          go_wp2_with fail
          refine (Kind_any p 0 S s _ H.out.1).mono ?_
          rw [HX.out, show kindOf none = 0 from rfl, show errI none = 57 from rfl]
          rintro e w1 ⟨rfl, rfl⟩
          clear hcell
          go_wp2
          go_roundw
          case rel => exact ⟨k + 1, by omega, by go_num, by trivial, HN.out⟩
          case measure => simp [intOf]; omega
        · have hb : (y != 0) = true := by simpa using hy0
          go_wp2_with fail
          refine (Kind_any p y S s _ H.out.1).mono ?_
          rw [HX.out, show kindOf none = 0 from rfl, show errI none = 57 from rfl]
          rintro e w1 ⟨rfl, rfl⟩
          clear hcell
          go_wp2
          go_ret2
          exact ⟨rfl, rfl⟩
    · obtain rfl : k = lr := by omega
      refine absurd (show rootsOk s rts from fun a ha => HOk.out a ?_) H.out.2.2
      rw [Hlr.out, List.take_length]; exact ha
end Go.Proofs.Ytniifefmjdjebaa
namespace Go.Proofs.Ytniifefmjdjebaa
open Go.RowKit
set_option linter.unusedVariables false
set_option linter.unusedSimpArgs false
/-- The arena, the map 'to' at tb, the row of what is live: beside what was there. -/
structure CSt (w wr : World) (p : Nat) (S S' : Nat → Prop) (t : AS) (tb : Nat) (f : Int → Option Int) (v : Value) (live : List Int) : Prop where
  a : IsArena wr p S' t
  sub : ∀ k, S' k → S k ∨ w.heap.size ≤ k
  fr : Fr S w wr
  im : IMap wr tb f
  nt : ¬ S' tb
  tn : w.heap.size ≤ tb
  row : wr.ownsRow 0 2 1 v live.length (live.map (Value.int .i64))
  nv : ∀ k, v.ownBlock = some k → ¬ S' k
  vn : ∀ k, v.ownBlock = some k → w.heap.size ≤ k
section
variable {w wr w' : World} {p : Nat} {S S' : Nat → Prop} {t t' : AS} {tb : Nat} {f g : Int → Option Int} {v : Value} {live : List Int}
theorem CSt.kept (h : CSt w wr p S S' t tb f v live) (hf : Fr (fun _ => False) wr w') : CSt w w' p S S' t tb f v live :=
  ⟨h.a.keep hf (fun _ _ h => h), h.sub, h.fr.trans hf (fun _ h => h) (fun _ _ h => h.elim), hf.imap h.im id, h.nt, h.tn, hf.row h.row (fun _ _ h => h), h.nv, h.vn⟩
theorem CSt.drewN (h : CSt w wr p S S' t tb f v live) (n : Nat) : CSt w (wr.drewN n) p S S' t tb f v live := h.kept (Fr.drewN _ wr n)
theorem CSt.turn (h : CSt w wr p S S' t tb f v live) (ht : Turned wr w' p S' t') : ∃ S'', CSt w w' p S S'' t' tb f v live := by
  obtain ⟨S'', h1, h2, h3⟩ := ht
  refine ⟨S'', h1, fun k hk => ?_, h.fr.trans h2 (fun _ h => h) (fun i hi e => (h.sub i e).elim id (fun h => by omega)), h2.imap h.im h.nt, fun e => ?_, h.tn, h2.row h.row h.nv, fun k hk e => ?_, h.vn⟩
  · rcases h3 k hk with h4 | h4
    · exact h.sub k h4
    · have := h.fr.size; right; omega
  · rcases h3 _ e with h4 | h4
    · exact h.nt h4
    · have := h.im.lt; omega
  · rcases h3 _ e with h4 | h4
    · exact h.nv k hk h4
    · have := row_lt h.row hk; omega
theorem CSt.put (h : CSt w wr p S S' t tb f v live) (h1 : IsArena w' p S' t') (h2 : Fr S' wr w') : CSt w w' p S S' t' tb f v live :=
  ⟨h1, h.sub, h.fr.trans h2 (fun _ h => h) (fun i hi e => (h.sub i e).elim id (fun h => by omega)), h2.imap h.im h.nt, h.nt, h.tn, h2.row h.row h.nv, h.nv, h.vn⟩
theorem CSt.mapped (h : CSt w wr p S S' t tb f v live) (him : IMap w' tb g) (hf : Fr (fun j => j = tb) wr w') : CSt w w' p S S' t tb g v live :=
  ⟨h.a.keep hf (fun k hk e => h.nt (e ▸ hk)), h.sub, h.fr.trans hf (fun _ h => h) (fun i hi e => by have := h.tn; omega), him, h.nt, h.tn, hf.row h.row (fun k hk e => row_ne_imap h.row h.im (e ▸ hk.symm)), h.nv, h.vn⟩
end
/-- A slot that is written where an object lies. -/
theorem put_at (t : AS) (i : Nat) (x : Ob) (n v : Int) (hx : t.used[i]? = some x) (h0 : 0 ≤ n) (h1 : n < x.vs.length) :
    t.put (adr t.used i) n v = { t with used := t.used.set i ⟨x.kind, x.vs.set n.toNat v⟩ } := by
  have hi : i < t.used.length := (List.getElem?_eq_some_iff.1 hx).1
  have hxe : t.used[i] = x := (List.getElem?_eq_some_iff.1 hx).2
  unfold AS.put
  rw [find_adr t.used i hi, hxe, if_pos (show slotE (some x) n = 0 from if_neg (by omega))]
  have e5 := setOb_get t.used 0 i n.toNat v hi
  rw [show ((0 : Nat) : Int) + tot (t.used.take i) + 8 = adr t.used i from by unfold adr; omega, hx] at e5
  simp only [Option.getD_some] at e5 ⊢
  rw [e5]
theorem fixVs_length (f : Int → Option Int) : ∀ (ns vs : List Int), (fixVs f vs ns).length = vs.length
  | [], _ => rfl
  | n :: ns, vs => by
    have ih := fixVs_length f ns (match f (vs[n.toNat]?.getD 0) with | some now => vs.set n.toNat now | none => vs)
    show (fixVs f (match f (vs[n.toNat]?.getD 0) with | some now => vs.set n.toNat now | none => vs) ns).length = _
    rw [ih]
    split <;> simp
theorem fixVs_snoc (f : Int → Option Int) (vs ns : List Int) (n : Int) : fixVs f vs (ns ++ [n]) = match f ((fixVs f vs ns)[n.toNat]?.getD 0) with | some now => (fixVs f vs ns).set n.toNat now | none => fixVs f vs ns := by
  unfold fixVs; rw [List.foldl_append]; rfl
end Go.Proofs.Ytniifefmjdjebaa
namespace Go.Proofs.Ytniifefmjdjebaa
open Go.RowKit
set_option linter.unusedVariables false
set_option linter.unusedSimpArgs false
theorem IMap.get {P : Program} {w : World} {b : Nat} {f : Int → Option Int} {t kt et : TypeId} (h : IMap w b f) (ht : P.underlying t = some (.map kt et)) (hk : P.underlying kt = some (.int .i64)) (hz : ∀ w, (zeroValue et).run P w = .ok (.int .i64 0) w) (k : Int) :
    (Instr.lookup t (.map (some b)) (.int .i64 k) false).run P w = .ok (.int .i64 ((f k).getD 0)) w := by
  obtain ⟨es, clock, hb, hg, hf⟩ := h
  unfold Instr.lookup
  rcases findNow_lookI k es.toList 0 hg with ⟨h1, h2⟩ | ⟨j, v, h1, h2, _⟩
  · simp only [Sem.run_bind, Sem.run_pure, run_underlying ht, Result.andThen_ok, MapKept.run_getObj_map hb, MapKept.run_checkKey (P := P) (w := w) hk (key_int k) _ 9999, MapKept.run_findKey (P := P) (w := w) hk h1, hz, ← hf k, h2]
    rfl
  · simp only [Sem.run_bind, Sem.run_pure, run_underlying ht, Result.andThen_ok, MapKept.run_getObj_map hb, MapKept.run_checkKey (P := P) (w := w) hk (key_int k) _ 9999, MapKept.run_findKey (P := P) (w := w) hk h1, hz, ← hf k, h2]
    rfl
/-- The first i objects are turned; of the i-th the slots of the first j. -/
def fixU (T : List (List Int)) (f : Int → Option Int) (os : List Ob) (i : Nat) : List Ob := (os.map (fixOb T f)).take i ++ os.drop i
def fixIn (T : List (List Int)) (f : Int → Option Int) (os : List Ob) (i : Nat) (x : Ob) (j : Nat) : List Ob := (os.map (fixOb T f)).take i ++ ⟨x.kind, fixVs f x.vs ((refsG T x).take j)⟩ :: os.drop (i + 1)
theorem fixOb_size (T : List (List Int)) (f : Int → Option Int) (x : Ob) : (fixOb T f x).size = x.size := by unfold fixOb Ob.size; rw [fixVs_length]
theorem tot_fix (T : List (List Int)) (f : Int → Option Int) (os : List Ob) (i : Nat) : tot ((os.map (fixOb T f)).take i) = tot (os.take i) := by
  unfold tot
  rw [← List.map_take, List.map_map]
  congr 1
  apply List.map_congr_left
  intro x _
  exact fixOb_size T f x
theorem fixU_zero (T : List (List Int)) (f : Int → Option Int) (os : List Ob) : fixU T f os 0 = os := by simp [fixU]
theorem fixU_all (T : List (List Int)) (f : Int → Option Int) (os : List Ob) : fixU T f os os.length = os.map (fixOb T f) := by
  unfold fixU; rw [List.take_of_length_le (by simp), List.drop_length, List.append_nil]
theorem fixIn_zero (T : List (List Int)) (f : Int → Option Int) (os : List Ob) (i : Nat) (x : Ob) (hx : os[i]? = some x) : fixIn T f os i x 0 = fixU T f os i := by
  obtain ⟨hi, he⟩ := List.getElem?_eq_some_iff.1 hx
  unfold fixIn fixU
  rw [List.drop_eq_getElem_cons hi, he]
  rfl
theorem fixIn_all (T : List (List Int)) (f : Int → Option Int) (os : List Ob) (i : Nat) (x : Ob) (hx : os[i]? = some x) : fixIn T f os i x (refsG T x).length = fixU T f os (i + 1) := by
  obtain ⟨hi, he⟩ := List.getElem?_eq_some_iff.1 hx
  have hi' : i < (os.map (fixOb T f)).length := by simpa using hi
  unfold fixIn fixU
  rw [List.take_length, List.take_succ_eq_append_getElem hi', List.getElem_map, he, List.append_assoc]
  rfl
theorem fixIn_at (T : List (List Int)) (f : Int → Option Int) (os : List Ob) (i : Nat) (x : Ob) (j : Nat) (hx : os[i]? = some x) : (fixIn T f os i x j)[i]? = some ⟨x.kind, fixVs f x.vs ((refsG T x).take j)⟩ := by
  have hi : i < os.length := (List.getElem?_eq_some_iff.1 hx).1
  have hl : ((os.map (fixOb T f)).take i).length = i := by simp; omega
  unfold fixIn
  rw [List.getElem?_append_right (by omega), hl, Nat.sub_self]; rfl
theorem fixIn_adr (T : List (List Int)) (f : Int → Option Int) (os : List Ob) (i : Nat) (x : Ob) (j : Nat) (hx : os[i]? = some x) : adr (fixIn T f os i x j) i = adr os i := by
  have hi : i < os.length := (List.getElem?_eq_some_iff.1 hx).1
  have hl : ((os.map (fixOb T f)).take i).length = i := by simp; omega
  unfold adr fixIn
  rw [List.take_append_of_le_length (by omega), List.take_of_length_le (by omega), tot_fix]
theorem fixIn_set (T : List (List Int)) (f : Int → Option Int) (os : List Ob) (i : Nat) (x y : Ob) (j : Nat) (hx : os[i]? = some x) : (fixIn T f os i x j).set i y = (os.map (fixOb T f)).take i ++ y :: os.drop (i + 1) := by
  have hi : i < os.length := (List.getElem?_eq_some_iff.1 hx).1
  have hl : ((os.map (fixOb T f)).take i).length = i := by simp; omega
  unfold fixIn
  rw [List.set_append, if_neg (by omega), hl, Nat.sub_self]; rfl
end Go.Proofs.Ytniifefmjdjebaa
namespace Go.Proofs.Ytniifefmjdjebaa
open Go.RowKit
set_option linter.unusedVariables false
set_option linter.unusedSimpArgs false
theorem CSt.far {w wr w' : World} {p : Nat} {S S' : Nat → Prop} {t : AS} {tb : Nat} {f : Int → Option Int} {v : Value} {live : List Int} {ob : Nat} (h : CSt w wr p S S' t tb f v live) (hf : Fr (fun j => j = ob) wr w') (h1 : ¬ S' ob) (h2 : ob ≠ tb) (h3 : v.ownBlock ≠ some ob) (h4 : w.heap.size ≤ ob) : CSt w w' p S S' t tb f v live :=
  ⟨h.a.keep hf (fun k hk e => h1 (e ▸ hk)), h.sub, h.fr.trans hf (fun _ h => h) (fun i hi e => by omega), hf.imap h.im (Ne.symm h2), h.nt, h.tn, hf.row h.row (fun k hk e => h3 (e ▸ hk)), h.nv, h.vn⟩
theorem toK_succ (s : AS) (live : List Int) (k : Nat) (a : Int) (h1 : live.Nodup) (ha : live[k]? = some a) :
    toK live (objs s live) (k + 1) = fun b => if b = a then some (adr (objs s live) k) else toK live (objs s live) k b := by
  have hk : k < live.length := (List.getElem?_eq_some_iff.1 ha).1
  have ha' : live[k] = a := (List.getElem?_eq_some_iff.1 ha).2
  have hidx : live.idxOf a = k := by rw [← ha']; exact h1.idxOf_getElem k hk
  funext b
  simp only [toK]
  rw [List.take_succ_eq_append_getElem hk, ha']
  by_cases hb : b = a
  · subst hb
    rw [if_pos rfl, if_pos (by simp), hidx]
  · rw [if_neg hb]
    by_cases hbm : b ∈ live.take k
    · rw [if_pos hbm, if_pos (List.mem_append_left _ hbm)]
    · rw [if_neg hbm, if_neg (by simp [hbm, hb])]
set_option maxRecDepth 100000 in
set_option maxHeartbeats 4000000 in
theorem Collect_ok (p : Nat) (a1 : Option Addr) (l1 c1 : Nat) (rv : Value) (rts : List Int) (S : Nat → Prop) (s : AS) (T : List (List Int)) (D : Nat → Prop) (rs : List Value) (w : World) (h : IsArena w p S s) (hr : w.ownsRow 0 2 1 rv rts.length (rts.map (Value.int .i64))) (hok : rootsOk s rts)
    (ht : TabIs w (.slice a1 l1 c1) T D rs) (hD : ∀ k, D k → ¬ S k) (hR : ∀ k, rv.ownBlock = some k → ¬ S k) (hlen : rts.length ≤ 1048576) :
    Calls Try.prog 47 #[.pointer (some ⟨p, 0, none⟩), .iface 61 (.slice a1 l1 c1), rv] w fun e w' => ∃ v, e = .returned (.tuple #[v, .int .i64 0]) ∧ w'.ownsRow 0 2 1 v rts.length ((collectR s T rts).map (Value.int .i64)) ∧ (∀ k, v.ownBlock = some k → w.heap.size ≤ k) ∧
      ∃ S', IsArena w' p S' (collectS s T rts) ∧ Fr S w w' ∧ (∀ k, S' k → S k ∨ w.heap.size ≤ k) ∧ ∀ k, v.ownBlock = some k → ¬ S' k := by
  have hmm := @run_makeMap Try.prog
  obtain ⟨ar, cr, rfl⟩ := row_form hr
  have HLen := Lib.hid hlen; clear hlen
  have hll : rts.length ≤ maxLen := by
    rcases hr.2 with ⟨_, h0⟩ | ⟨g, cap, cur, h1, _, h2, h3, h4, _⟩ <;> omega
  unfold maxLen at hll
  have H := Lib.hid (And.intro h (And.intro hr (And.intro hok (And.intro ht (And.intro hD hR)))))
  clear h hr hok ht hD hR
  obtain ⟨lr, hlr⟩ : ∃ n, n = rts.length := ⟨_, rfl⟩
  have Hlr := Lib.hid hlr
  rw [← hlr] at H hll ⊢
  clear hlr
  go_enter Try.func47, Try.ntmps47
  go_wp2_with fail
  go_loopw [29] (fun i wr => ∃ k : Nat, k ≤ lr ∧ i = .int .i64 k ∧ w = wr) (fun i _ => (lr - intOf i).toNat)
  case atStart => exact ⟨0, by omega, rfl, rfl⟩
  case round =>
    obtain ⟨k, hk, rfl, rfl⟩ := hrel
    by_cases hlt : k < lr
    · have hrow := H.out.2.1
      obtain ⟨g, c, _, e1, _, _, _⟩ := row_addr hrow (by omega)
      simp only [Value.slice.injEq, true_and] at e1
      obtain ⟨rfl, rfl⟩ := e1
      have hcell := row_int hrow hlt
      obtain ⟨y, hy⟩ : ∃ y, y = rts[k]?.getD 0 := ⟨_, rfl⟩
      rw [← hy] at hcell
      have hyo : y = 0 ∨ isOb s y = true := by
        have hkL : k < rts.length := by rw [← Hlr.out]; exact hlt
        rw [List.getElem?_eq_getElem hkL, Option.getD_some] at hy
        rw [hy]
        exact H.out.2.2.1 _ (List.getElem_mem hkL)
      clear hy hrow
      by_cases hy0 : y = 0
      · subst hy0
        obtain ⟨kk, hkk⟩ : ∃ kk, kk = kindOf (findOb 0 s.used 0) := ⟨_, rfl⟩
        obtain ⟨ee, hee⟩ : ∃ ee, ee = errI (findOb 0 s.used 0) := ⟨_, rfl⟩
        go_wp2_with fail
        refine (Kind_any p 0 S s _ H.out.1).mono ?_
        rw [← hkk, ← hee]
        clear hkk hee
        rintro e w1 ⟨rfl, rfl⟩
        clear hcell hyo
        go_wp2
        go_roundw
        case rel => exact ⟨k + 1, by omega, by go_num, by trivial⟩
        case measure => simp [intOf]; omega
      · have hob := isOb_some (hyo.elim (fun h => absurd h hy0) id)
        have HX := Lib.hid hob
        clear hob hyo
        have hb : (y != 0) = true := by simpa using hy0
        go_wp2_with fail
        refine (Kind_any p y S s _ H.out.1).mono ?_
        rw [HX.out, show ∀ x, kindOf (some x) = x.kind from fun _ => rfl, show ∀ x, errI (some x) = 0 from fun _ => rfl]
        rintro e w1 ⟨rfl, rfl⟩
        clear hcell
        go_wp2
        go_roundw
        case rel => exact ⟨k + 1, by omega, by go_num, by trivial⟩
        case measure => simp [intOf]; omega
    · obtain rfl : k = lr := by omega
      go_wp2_with fail
      refine (Reach_any p a1 l1 c1 _ rts S s T D rs _ H.out.1 H.out.2.2.2.1 (by rw [← Hlr.out]; exact H.out.2.1)).mono ?_
      rintro e w2 ⟨v2, rfl, q1, q2, q3⟩
      obtain ⟨live, hlive⟩ : ∃ live, live = reach s T rts := ⟨_, rfl⟩
      rw [← hlive, List.length_map] at q1
      obtain ⟨a2, c2, rfl⟩ := row_form q1
      have HLive := Lib.hid hlive
      have H2 := Lib.hid (And.intro q1 (And.intro q2 q3))
      clear hlive q1 q2 q3
      go_wp2_with fail
      refine (Flip_any p S s _ (H.out.1.keep H2.out.2.1 (fun _ _ h => h))).mono ?_
      rintro e w3 ⟨rfl, htu⟩
      have H3 := Lib.hid htu
      clear htu
      go_wp2_with fail
      have hc0 : ∃ S3, CSt w (w3.alloc (.map #[] 0)) p S S3 (copyS s live 0) w3.heap.size (toK live (objs s live) 0) (.slice a2 live.length c2) live := by
        obtain ⟨S3, t1, t2, t3⟩ := H3.out
        have e0 : copyS s live 0 = ⟨[], s.used, fun _ => none, s.semi⟩ := by
          unfold copyS; congr 1 <;> (try (funext a; simp [toK]))
        have f0 : toK live (objs s live) 0 = fun _ => none := by funext a; simp [toK]
        have fa := Fr.alloc (fun _ => False) w3 (.map #[] 0)
        have hs1 := H2.out.2.1.size
        have hs2 := t2.size
        have hnS : ∀ k, S k → k < w.heap.size := fun k hk => H.out.1.lt hk
        have hv : ∀ k, (Value.slice a2 live.length c2).ownBlock = some k → ¬ S k := fun k hk e => by
          have := H2.out.2.2 k hk; have := hnS k e; omega
        rw [e0, f0]
        refine ⟨S3, t1.keep fa (fun _ _ h => h), fun k hk => ?_, (H2.out.2.1.trans (U := S) t2 (fun _ h => h.elim) (fun _ _ h => h)).trans fa (fun _ h => h) (fun _ _ h => h.elim), IMap.made w3, fun e => ?_, by omega, fa.row (t2.row H2.out.1 hv) (fun _ _ h => h), fun k hk e => ?_, H2.out.2.2⟩
        · rcases t3 k hk with h4 | h4
          · exact .inl h4
          · right; omega
        · have := t1.lt e; omega
        · rcases t3 k e with h4 | h4
          · exact hv k hk h4
          · have := row_lt H2.out.1 hk; omega
      obtain ⟨S3, hc0⟩ := hc0
      have HC0 := Lib.hid hc0
      obtain ⟨w4, hw4⟩ : ∃ W, W = w3.alloc (.map #[] 0) := ⟨_, rfl⟩
      obtain ⟨tb, htb⟩ : ∃ n, n = w3.heap.size := ⟨_, rfl⟩
      rw [← hw4, ← htb] at HC0
      rw [← hw4, ← htb]
      clear hw4 htb hc0 hmm
      have hlg := reach_good s T rts
      rw [← HLive.out] at hlg
      have HLg := Lib.hid hlg
      have hlive : live.length ≤ 1048576 := by
        have h1 := reachK_len s T rts s.used.length
        rw [HLive.out]
        have h2 := len_le_tot s.used
        have h3 := H.out.1.good.small
        unfold reach
        omega
      clear hlg
      obtain ⟨ln, hln⟩ : ∃ ln, ln = live.length := ⟨_, rfl⟩
      have Hln := Lib.hid hln
      rw [← hln] at HC0 hlive ⊢
      clear hln
      go_wp2_with fail
      go_loopw [56] (fun i wz => ∃ (k : Nat) (S' : Nat → Prop), k ≤ ln ∧ i = .int .i64 k ∧ CSt w wz p S S' (copyS s live k) tb (toK live (objs s live) k) (.slice a2 ln c2) live) (fun i _ => (ln - intOf i).toNat)
      case atStart => exact ⟨0, S3, by omega, rfl, HC0.out⟩
      case round =>
        obtain ⟨q, S', hq, rfl, hc⟩ := hrel
        have HC := Lib.hid hc
        clear hc
        by_cases hql : q < ln
        · have hrow := HC.out.row
          rw [← Hln.out] at hrow
          obtain ⟨g, c, _, e1, _, _, _⟩ := row_addr hrow (by omega)
          simp only [Value.slice.injEq, true_and] at e1
          obtain ⟨rfl, rfl⟩ := e1
          have hcell := row_int hrow hql
          have hqL : q < live.length := by rw [← Hln.out]; exact hql
          obtain ⟨y, hy⟩ : ∃ y, y = live[q]?.getD 0 := ⟨_, rfl⟩
          rw [← hy] at hcell
          have hyl : live[q]? = some y := by rw [hy, List.getElem?_eq_getElem hqL]; rfl
          have hst := copyS_step s live q y HLg.out.1 HLg.out.2 H.out.1.good hyl
          have hto : toK live (objs s live) (q + 1) = fun b => if b = y then some (adr (objs s live) q) else toK live (objs s live) q b := by
            exact toK_succ s live q y HLg.out.1 hyl
          have HQ := Lib.hid (And.intro hyl (And.intro hst hto))
          clear hy hrow hqL hyl hst hto
          go_wp2_with fail
          refine (Copy_any p y S' _ _ HC.out.a).mono ?_
          rintro e w5 ⟨rfl, q1⟩
          rw [HQ.out.2.1.1, HQ.out.2.1.2.1]
          rw [HQ.out.2.1.2.2] at q1
          obtain ⟨S5, hc5⟩ := HC.out.turn q1
          have HC5 := Lib.hid hc5
          obtain ⟨o, ho1, ho2⟩ := hc5.im.put und90 i64k y (adr (objs s live) q)
          have hup := ho1 w5 rfl
          have him := ho2 w5 rfl
          have hf6 : Fr (fun j => j = tb) w5 (ChangeMaps.setBlock w5 tb o) := Fr.setBlock w5 tb o rfl
          have HC6 := Lib.hid (hc5.mapped him hf6)
          obtain ⟨na, hna⟩ : ∃ na, na = adr (objs s live) q := ⟨_, rfl⟩
          rw [← hna] at hup ⊢
          clear hna him hf6 ho1 ho2 q1 hc5
          go_wp2
          go_roundw
          case rel => exact ⟨q + 1, S5, by omega, by go_num, by rw [HQ.out.2.2]; exact HC6.out⟩
          case measure => simp [intOf]; omega
        · obtain rfl : q = ln := by omega
          obtain ⟨os, hos⟩ : ∃ os, os = objs s live := ⟨_, rfl⟩
          obtain ⟨F, hF⟩ : ∃ F, F = toK live (objs s live) q := ⟨_, rfl⟩
          have HOs := Lib.hid (And.intro hos hF)
          have hosl : os.length = q := by rw [hos, objs_length]; exact Hln.out.symm
          have HOl := Lib.hid hosl
          have hcf : CSt w wr p S S' ⟨fixU T F os 0, s.used, F, s.semi⟩ tb F (.slice a2 q c2) live := by
            have h9 := HC.out
            rw [fixU_zero, hF, hos]
            unfold copyS at h9
            rw [List.take_of_length_le (by rw [objs_length]; have := Hln.out; omega)] at h9
            exact h9
          have HCF := Lib.hid hcf
          clear hos hF hosl hcf
          go_wp2_with fail
          go_loopw [71] (fun i wz => ∃ (k : Nat) (S' : Nat → Prop), k ≤ q ∧ i = .int .i64 k ∧ CSt w wz p S S' ⟨fixU T F os k, s.used, F, s.semi⟩ tb F (.slice a2 q c2) live) (fun i _ => (q - intOf i).toNat)
          case atStart => exact ⟨0, S', by omega, rfl, HCF.out⟩
          case round =>
            obtain ⟨i, S6, hi, rfl, hc6⟩ := hrel
            have HC6 := Lib.hid hc6
            clear hc6
            by_cases hil : i < q
            · have hrow := HC6.out.row
              rw [← Hln.out] at hrow
              obtain ⟨g, c, _, e1, _, _, _⟩ := row_addr hrow (by omega)
              simp only [Value.slice.injEq, true_and] at e1
              obtain ⟨rfl, rfl⟩ := e1
              have hcell := row_int hrow hil
              have hqL : i < live.length := by rw [← Hln.out]; exact hil
              obtain ⟨y, hy⟩ : ∃ y, y = live[i]?.getD 0 := ⟨_, rfl⟩
              rw [← hy] at hcell
              have hyl : live[i]? = some y := by rw [hy, List.getElem?_eq_getElem hqL]; rfl
              have hFy : F y = some (adr os i) := by
                rw [HOs.out.2, HOs.out.1]
                have ha' : live[i] = y := (List.getElem?_eq_some_iff.1 hyl).2
                unfold toK
                rw [if_pos (by rw [List.take_of_length_le (by have := Hln.out; omega)]; exact List.mem_of_getElem? hyl), ← ha', HLg.out.1.idxOf_getElem i hqL]
              have hget := HC6.out.im.get und90 i64k zero2 y
              rw [hFy, Option.getD_some] at hget
              obtain ⟨x, hx⟩ : ∃ x, os[i]? = some x := ⟨_, List.getElem?_eq_getElem (by rw [HOl.out]; exact hil)⟩
              have hfx : findOb 0 (fixU T F os i) (adr os i) = some x := by
                have h1 := fixIn_at T F os i x 0 hx
                have h2 := fixIn_adr T F os i x 0 hx
                have h3 := (List.getElem?_eq_some_iff.1 h1).1
                rw [← fixIn_zero T F os i x hx, ← h2, find_adr _ i h3]
                have h4 := (List.getElem?_eq_some_iff.1 h1).2
                rw [h4]; rfl
              have HX := Lib.hid (And.intro hx (And.intro hfx (And.intro hFy hyl)))
              obtain ⟨na, hna⟩ : ∃ na, na = adr os i := ⟨_, rfl⟩
              rw [← hna] at hget HX
              have Hna := Lib.hid hna
              clear hy hrow hqL hyl hFy hx hfx hna
              go_wp2_with fail
              refine (refs_any p a1 l1 c1 na S6 _ x T D rs _ HC6.out.a HX.out.2.1 (H.out.2.2.2.1.keep HC6.out.fr H.out.2.2.2.2.1)).mono ?_
              rintro e w7 ⟨v7, rfl, q1, q2, q3⟩
              rw [List.length_map] at q1
              obtain ⟨a7, c7, rfl⟩ := row_form q1
              have H7 := Lib.hid (And.intro q1 (And.intro q2 q3))
              have HC7 := Lib.hid (HC6.out.kept (w' := w7) q2)
              clear q1 q2 q3 hcell
              obtain ⟨n7, hn7⟩ : ∃ n, n = (refsG T x).length := ⟨_, rfl⟩
              have Hn7 := Lib.hid hn7
              rw [← hn7] at H7 ⊢
              clear hn7
              have hv7 : ∀ k, (Value.slice a7 n7 c7).ownBlock = some k → ¬ S6 k := fun k hk e => by
                have h8 := H7.out.2.2 k hk
                have h9 := HC6.out.a.lt e
                omega
              have HV7 := Lib.hid hv7
              have hn7m : n7 ≤ maxLen := by
                rcases H7.out.1.2 with ⟨_, h0⟩ | ⟨_, cap, cur, h1, _, h2, h3, h4, _⟩ <;> omega
              unfold maxLen at hn7m
              clear hv7 hget
              go_wp2_with fail
              go_loopw [82] (fun i' wz => ∃ j : Nat, j ≤ n7 ∧ i' = .int .i64 j ∧ CSt w wz p S S6 ⟨fixIn T F os i x j, s.used, F, s.semi⟩ tb F (.slice (some ⟨g, 0, none⟩) q c2) live ∧ wz.ownsRow 0 3 1 (.slice a7 n7 c7) n7 ((refsG T x).map (Value.int .i64))) (fun i' _ => (n7 - intOf i').toNat)
              case atStart => exact ⟨0, by omega, rfl, by rw [fixIn_zero T F os i x HX.out.1]; exact HC7.out, H7.out.1⟩
              case round =>
                obtain ⟨j, hj, rfl, hcj, hrj⟩ := hrel
                have HJ := Lib.hid (And.intro hcj hrj)
                by_cases hjl : j < n7
                · obtain ⟨g7, d7, _, e7, _, _, _⟩ := row_addr hrj (by omega)
                  simp only [Value.slice.injEq, true_and] at e7
                  obtain ⟨rfl, rfl⟩ := e7
                  have hcell := row_int hrj hjl
                  have hjr : j < (refsG T x).length := by rw [← Hn7.out]; exact hjl
                  obtain ⟨m, hm⟩ : ∃ m, m = (refsG T x)[j]?.getD 0 := ⟨_, rfl⟩
                  rw [← hm] at hcell
                  have hmr : (refsG T x)[j]? = some m := by rw [hm, List.getElem?_eq_getElem hjr]; rfl
                  have hin : 0 ≤ m ∧ m < x.vs.length := by
                    rcases addAll_mem.1 (show m ∈ addAll (inB x.vs.length) [] _ from List.mem_of_getElem? hmr) with h | h
                    · cases h
                    · exact of_decide_eq_true h.2
                  have hget := hcj.im.get und90 i64k zero2 y
                  rw [HX.out.2.2.1, Option.getD_some] at hget
                  have hu := fixIn_at T F os i x j HX.out.1
                  have hua := fixIn_adr T F os i x j HX.out.1
                  rw [← Hna.out] at hua
                  have hfo : findOb 0 (fixIn T F os i x j) na = some ⟨x.kind, fixVs F x.vs ((refsG T x).take j)⟩ := by
                    have h3 := (List.getElem?_eq_some_iff.1 hu).1
                    rw [← hua, find_adr _ i h3, (List.getElem?_eq_some_iff.1 hu).2]
                  have hgv : getV (some (⟨x.kind, fixVs F x.vs ((refsG T x).take j)⟩ : Ob)) m = (fixVs F x.vs ((refsG T x).take j))[m.toNat]?.getD 0 := by
                    unfold getV
                    simp only
                    rw [fixVs_length, if_neg (by omega), List.getD_eq_getElem?_getD]
                  have htk : (refsG T x).take (j + 1) = (refsG T x).take j ++ [m] := by
                    rw [List.take_succ_eq_append_getElem hjr]
                    rw [List.getElem?_eq_getElem hjr] at hmr
                    rw [Option.some.inj hmr]
                  have hput := fun v => put_at ⟨fixIn T F os i x j, s.used, F, s.semi⟩ i _ m v hu hin.1 (by rw [fixVs_length]; exact hin.2)
                  simp only [hua] at hput
                  have HP := Lib.hid (And.intro hu (And.intro hfo (And.intro hgv (And.intro htk hput))))
                  have HIn := Lib.hid hin
                  clear hrj hm hmr hjr hu hua hfo hgv htk hput hin
                  obtain ⟨u, hu⟩ : ∃ u, u = (fixVs F x.vs ((refsG T x).take j))[m.toNat]?.getD 0 := ⟨_, rfl⟩
                  have Hu := Lib.hid hu
                  clear hu hcj
                  go_wp2_with fail
                  refine (Get_any p na m S6 _ _ HJ.out.1.a).mono ?_
                  rw [HP.out.2.1, HP.out.2.2.1, ← Hu.out]
                  obtain ⟨ge, hge⟩ : ∃ ge, ge = slotE (some (⟨x.kind, fixVs F x.vs ((refsG T x).take j)⟩ : Ob)) m := ⟨_, rfl⟩
                  rw [← hge]
                  clear hge
                  rintro e w8 ⟨rfl, nd, hw8⟩
                  have HC8 := Lib.hid (show CSt w w8 p S S6 ⟨fixIn T F os i x j, s.used, F, s.semi⟩ tb F (.slice (some ⟨g, 0, none⟩) q c2) live ∧ w8.ownsRow 0 3 1 (.slice (some ⟨g7, 0, none⟩) n7 c7) n7 ((refsG T x).map (Value.int .i64)) from by
                    rw [hw8]; exact ⟨HJ.out.1.drewN nd, HJ.out.2⟩)
                  clear hw8 hget hcell
                  have hlk := HC8.out.1.im.look und90 i64k zero2 u
                  have hget := HC8.out.1.im.get und90 i64k zero2 y
                  rw [HX.out.2.2.1, Option.getD_some] at hget
                  cases hFu : F u with
                  | none =>
                    rw [hFu] at hlk
                    simp only [Option.getD_none, Option.isSome_none] at hlk
                    have HN := Lib.hid (show fixIn T F os i x (j + 1) = fixIn T F os i x j from by
                      unfold fixIn
                      rw [HP.out.2.2.2.1, fixVs_snoc, ← Hu.out, hFu])
                    clear hFu
                    go_wp2
                    go_roundw
                    case rel => exact ⟨j + 1, by omega, by go_num, by rw [HN.out]; exact HC8.out.1, HC8.out.2⟩
                    case measure => simp [intOf]; omega
                  | some now =>
                    rw [hFu] at hlk
                    simp only [Option.getD_some, Option.isSome_some] at hlk
                    have hnow : I64 now := by
                      rw [HOs.out.2] at hFu
                      unfold toK at hFu
                      split at hFu
                      · obtain rfl := Option.some.inj hFu
                        have e1 := objs_tot s live HLg.out.1 HLg.out.2
                        have e2 := H.out.1.good.small
                        have e3 := tot_take_le (objs s live) (live.idxOf u)
                        unfold I64 adr
                        omega
                      · cases hFu
                    have HN := Lib.hid (show (⟨fixIn T F os i x j, s.used, F, s.semi⟩ : AS).put na m now = ⟨fixIn T F os i x (j + 1), s.used, F, s.semi⟩ from by
                      rw [HP.out.2.2.2.2 now]
                      congr 1
                      rw [fixIn_set T F os i x _ j HX.out.1]
                      unfold fixIn
                      rw [HP.out.2.2.2.1, fixVs_snoc, ← Hu.out, hFu])
                    have Hnow := Lib.hid hnow
                    clear hFu hnow
                    go_wp2_with fail
                    refine (Put_any p na m now S6 _ _ HC8.out.1.a Hnow.out).mono ?_
                    rw [HN.out]
                    obtain ⟨ge2, hge2⟩ : ∃ ge2, ge2 = slotE (findOb 0 (AS.used ⟨fixIn T F os i x j, s.used, F, s.semi⟩) na) m := ⟨_, rfl⟩
                    rw [← hge2]
                    clear hge2
                    rintro e w9 ⟨rfl, q1, q2⟩
                    have HC9 := Lib.hid (And.intro (HC8.out.1.put q1 q2) (q2.row HC8.out.2 HV7.out))
                    clear q1 q2 hlk hget
                    go_wp2
                    go_roundw
                    case rel => exact ⟨j + 1, by omega, by go_num, HC9.out⟩
                    case measure => simp [intOf]; omega
                · obtain rfl : j = n7 := by omega
                  have HE := Lib.hid (show CSt w wr p S S6 ⟨fixU T F os (i + 1), s.used, F, s.semi⟩ tb F (.slice (some ⟨g, 0, none⟩) q c2) live from by
                    rw [← fixIn_all T F os i x HX.out.1, ← Hn7.out]; exact HJ.out.1)
                  clear hcj hrj
                  go_wp2
                  go_roundw
                  case rel => exact ⟨i + 1, S6, by omega, by go_num, HE.out⟩
                  case measure => simp [intOf]; omega
            · obtain rfl : i = q := by omega
              obtain ⟨i2, hi2, hz2, hs2, hb2⟩ := info_parts info2
              have hlr2 : k ≤ 1048576 := by rw [Hlr.out]; exact HLen.out
              have hmk : ∀ W : World, (Instr.makeSlice 38 (.int .i64 (k : Int)) (.int .i64 (k : Int))).run Try.prog W = .ok (.slice (some ⟨W.heap.size, 0, none⟩) k k) (W.alloc (.cells (madeCells #[.int .i64 0] k) 2)) := fun W => by
                have h5 := run_make (P := Try.prog) W 38 2 i2 (.int .i64 0) und38 hi2 hz2 .i64 .i64 k k (by omega) (Int.le_refl _) (by rw [hb2]; omega) (by omega)
                simp only [Int.toNat_natCast, hs2, Nat.mul_one] at h5
                exact h5
              have HZ := Lib.hid HC6.out
              have hl4 := World.ownsRow_lit (base := 0) (e := 2) (size := 1) wr (madeCells #[.int .i64 0] k) k (Nat.zero_le _) (by unfold maxLen; omega) (by rw [size_madeCells, Nat.mul_one])
              rw [toList_madeCells_one] at hl4
              obtain ⟨vs, hvs⟩ : ∃ vs, vs = collectR s T rts := ⟨_, rfl⟩
              have hvl : vs.length = k := by rw [hvs]; unfold collectR; rw [List.length_map]; exact Hlr.out.symm
              have hob : ∃ ob, ob = wr.heap.size := ⟨_, rfl⟩
              obtain ⟨ob, hob⟩ := hob
              have hst : CSt w (wr.alloc (.cells (madeCells #[.int .i64 0] k) 2)) p S S6 ⟨fixU T F os i, s.used, F, s.semi⟩ tb F (.slice a2 i c2) live ∧ (wr.alloc (.cells (madeCells #[.int .i64 0] k) 2)).ownsRow 0 2 1 (.slice (some ⟨ob, 0, none⟩) k k) k ((slotsK vs 0).map (Value.int .i64)) := by
                refine ⟨HZ.out.kept (Fr.alloc _ _ _), ?_⟩
                rw [slotsK_zero, List.map_replicate, hvl, hob]; exact hl4
              have hobf : ¬ S6 ob ∧ ob ≠ tb ∧ (Value.slice a2 i c2).ownBlock ≠ some ob ∧ w.heap.size ≤ ob := by
                refine ⟨fun e => by have := HZ.out.a.lt e; omega, fun e => by have := HZ.out.im.lt; omega, fun e => by have := row_lt HZ.out.row e; omega, by rw [hob]; exact HZ.out.fr.size⟩
              have HOb := Lib.hid (And.intro hobf (And.intro hvs hvl))
              have HSt := Lib.hid hst
              clear hst hobf hvs hvl hl4
              go_wp2_with fail
              rw [← hob]
              clear hob
              go_loopw [116] (fun i' wz => ∃ j : Nat, j ≤ k ∧ i' = .int .i64 j ∧ CSt w wz p S S6 ⟨fixU T F os i, s.used, F, s.semi⟩ tb F (.slice a2 i c2) live ∧ wz.ownsRow 0 2 1 (.slice (some ⟨ob, 0, none⟩) k k) k ((slotsK vs j).map (Value.int .i64))) (fun i' _ => (k - intOf i').toNat)
              case atStart => exact ⟨0, by omega, rfl, HSt.out⟩
              case round =>
                obtain ⟨j, hj, rfl, hcj, hrj⟩ := hrel
                have HJ := Lib.hid (And.intro hcj hrj)
                by_cases hjl : j < k
                · have hrow := hcj.fr.row H.out.2.1 H.out.2.2.2.2.2
                  obtain ⟨g, c, _, e1, _, _, _⟩ := row_addr hrow (by omega)
                  simp only [Value.slice.injEq, true_and] at e1
                  obtain ⟨rfl, rfl⟩ := e1
                  have hcell := row_int hrow hjl
                  have hco := row_int hrj hjl
                  have hfz : ∀ n, wr.frozen? ⟨ob, n, none⟩ = false := hrj.frozenAt
                  obtain ⟨y, hy⟩ : ∃ y, y = rts[j]?.getD 0 := ⟨_, rfl⟩
                  rw [← hy] at hcell
                  obtain ⟨z, hz⟩ : ∃ z, z = (slotsK vs j)[j]?.getD 0 := ⟨_, rfl⟩
                  rw [← hz] at hco
                  have hget := hcj.im.get und90 i64k zero2 y
                  obtain ⟨u, hu⟩ : ∃ u, u = (F y).getD 0 := ⟨_, rfl⟩
                  rw [← hu] at hget
                  have Hu := Lib.hid (And.intro hy hu)
                  clear hrow hrj hcj hy hz hu
                  go_wp2
                  go_roundw
                  case rel =>
                    have hjv : vs[j]?.getD 0 = u := by
                      have hjr : j < rts.length := by rw [← Hlr.out]; exact hjl
                      rw [HOb.out.2.1, Hu.out.2, Hu.out.1, HOs.out.2, HLive.out]
                      unfold collectR
                      rw [List.getElem?_map, List.getElem?_eq_getElem hjr]
                      simp only [Option.map_some, Option.getD_some]
                      rw [← HLive.out, ← Hln.out]
                    refine ⟨j + 1, by omega, by go_num, HJ.out.1.far (Fr.setCell _ _ _ rfl) HOb.out.1.1 HOb.out.1.2.1 HOb.out.1.2.2.1 HOb.out.1.2.2.2, ?_⟩
                    have h5 := (HJ.out.2.stored j (.int .i64 u)).1
                    rw [← slotsK_succ vs j (by rw [HOb.out.2.2]; exact hjl), hjv, List.map_set]
                    exact h5
                  case measure => simp [intOf]; omega
                · obtain rfl : j = k := by omega
                  have hcs : (⟨fixU T F os i, s.used, F, s.semi⟩ : AS) = collectS s T rts := by
                    have e1 : fixU T F os i = os.map (fixOb T F) := by have := fixU_all T F os; rwa [HOl.out] at this
                    unfold collectS
                    rw [e1, HOs.out.2, HOs.out.1, ← HLive.out, ← Hln.out]
                  have HFin := Lib.hid (And.intro hcs HJ.out.2)
                  clear hcj hrj hcs
                  go_wp2
                  go_ret2
                  refine ⟨_, rfl, ?_, ?_, S6, by rw [← HFin.out.1]; exact HJ.out.1.a, HJ.out.1.fr, HJ.out.1.sub, ?_⟩
                  · have h5 := HFin.out.2
                    have h6 := slotsK_all vs
                    rw [HOb.out.2.2] at h6
                    rw [h6, HOb.out.2.1] at h5
                    exact h5
                  · intro n hn
                    have e := HOb.out.1.2.2.2
                    have : ob = n := by simpa [Value.ownBlock] using hn
                    omega
                  · intro n hn e
                    have h1 := HOb.out.1.1
                    have : ob = n := by simpa [Value.ownBlock] using hn
                    exact h1 (this ▸ e)
end Go.Proofs.Ytniifefmjdjebaa
namespace Go.Proofs.Ytniifefmjdjebaa
open Go.RowKit
set_option linter.unusedVariables false
set_option linter.unusedSimpArgs false
/-- The literal Table{{0}, {}}, and a row of one root behind it. -/
theorem lit_table (w : World) (y : Int) (hy : True) :
    let w1 := (((w.alloc (.cells #[.int .i64 0] 3)).alloc (.cells #[] 3)).alloc (.cells #[.slice (some ⟨w.heap.size, 0, none⟩) 1 1, .slice (some ⟨w.heap.size + 1, 0, none⟩) 0 0] 22)).alloc (.cells #[.int .i64 y] 2)
    TabIs w1 (.slice (some ⟨w.heap.size + 1 + 1, 0, none⟩) 2 2) [[0], []] (fun k => w.heap.size ≤ k) [.slice (some ⟨w.heap.size, 0, none⟩) 1 1, .slice (some ⟨w.heap.size + 1, 0, none⟩) 0 0] ∧
      w1.ownsRow 0 2 1 (.slice (some ⟨w.heap.size + 1 + 1 + 1, 0, none⟩) 1 1) 1 [.int .i64 y] ∧ Fr (fun _ => False) w w1 := by
  intro w1
  have f1 := Fr.alloc (fun _ => False) w (.cells #[.int .i64 0] 3)
  have f2 := Fr.alloc (fun _ => False) (w.alloc (.cells #[.int .i64 0] 3)) (.cells #[] 3)
  have f3 := Fr.alloc (fun _ => False) ((w.alloc (.cells #[.int .i64 0] 3)).alloc (.cells #[] 3)) (.cells #[.slice (some ⟨w.heap.size, 0, none⟩) 1 1, .slice (some ⟨w.heap.size + 1, 0, none⟩) 0 0] 22)
  have f4 := Fr.alloc (fun _ => False) (((w.alloc (.cells #[.int .i64 0] 3)).alloc (.cells #[] 3)).alloc (.cells #[.slice (some ⟨w.heap.size, 0, none⟩) 1 1, .slice (some ⟨w.heap.size + 1, 0, none⟩) 0 0] 22)) (.cells #[.int .i64 y] 2)
  have r1 := World.ownsRow_lit (base := 0) (e := 3) (size := 1) w #[.int .i64 0] 1 (Nat.zero_le _) (by unfold maxLen; omega) rfl
  have r2 := World.ownsRow_lit (base := 0) (e := 3) (size := 1) (w.alloc (.cells #[.int .i64 0] 3)) #[] 0 (Nat.zero_le _) (by unfold maxLen; omega) rfl
  have r3 := World.ownsRow_lit (base := 0) (e := 22) (size := 1) ((w.alloc (.cells #[.int .i64 0] 3)).alloc (.cells #[] 3)) #[.slice (some ⟨w.heap.size, 0, none⟩) 1 1, .slice (some ⟨w.heap.size + 1, 0, none⟩) 0 0] 2 (Nat.zero_le _) (by unfold maxLen; omega) rfl
  have r4 := World.ownsRow_lit (base := 0) (e := 2) (size := 1) (((w.alloc (.cells #[.int .i64 0] 3)).alloc (.cells #[] 3)).alloc (.cells #[.slice (some ⟨w.heap.size, 0, none⟩) 1 1, .slice (some ⟨w.heap.size + 1, 0, none⟩) 0 0] 22)) #[.int .i64 y] 1 (Nat.zero_le _) (by unfold maxLen; omega) rfl
  simp only [World.size_alloc] at r2 r3 r4
  have r1' := f4.row (f3.row (f2.row r1 (fun _ _ h => h)) (fun _ _ h => h)) (fun _ _ h => h)
  have r2' := f4.row (f3.row r2 (fun _ _ h => h)) (fun _ _ h => h)
  refine ⟨⟨f4.row r3 (fun _ _ h => h), fun i r xs hr hx => ?_, fun k hk => ?_, fun r hr k hk => ?_, by simp⟩, r4, ((f1.trans f2 (fun _ h => h) (fun _ _ h => h)).trans f3 (fun _ h => h) (fun _ _ h => h)).trans f4 (fun _ h => h) (fun _ _ h => h)⟩
  · match i with
    | 0 =>
      simp at hr hx
      subst hr hx
      exact ⟨r1', fun n hn => by simp at hn; subst hn; unfold I64; omega⟩
    | 1 =>
      simp at hr hx
      subst hr hx
      exact ⟨r2', fun n hn => by simp at hn⟩
    | i + 2 => simp at hr
  · simp [Value.ownBlock] at hk; omega
  · simp at hr
    rcases hr with rfl | rfl <;> (simp [Value.ownBlock] at hk; omega)
set_option maxRecDepth 100000 in
set_option maxHeartbeats 2000000 in
theorem gcKnown_any (w : World) : Calls Try.prog 42 #[] w fun e w' => e = .returned (.bool true) ∧ Fr (fun _ => False) w w' := by
  go_enter Try.func42, Try.ntmps42
  go_wp2_with fail
  refine (New_any 256 _ (by omega) (by omega)).mono ?_
  rintro e w2 ⟨p, S, rfl, q1, q2, q3⟩
  have HS := Lib.hid (show Sx w w2 p S (AS.new 256) [] from St.sx ⟨q1, q2, q3, fun _ h => by cases h⟩)
  clear q1 q2 q3
  go_wp2_with fail
  refine (Make_any p 0 2 S _ _ HS.out.st.arena (by unfold I64; omega)).mono ?_
  rintro e w3 ⟨rfl, q1⟩
  obtain ⟨S3, h3⟩ := HS.out.turned q1
  have HS3 := Lib.hid h3
  clear q1 h3
  go_wp2_with fail
  refine (Make_any p 1 0 S3 _ _ HS3.out.st.arena (by unfold I64; omega)).mono ?_
  rintro e w4 ⟨rfl, q1⟩
  obtain ⟨S4, h4⟩ := HS3.out.turned q1
  have HS4 := Lib.hid h4
  clear q1 h4
  go_wp2_with fail
  refine (Make_any p 0 2 S4 _ _ HS4.out.st.arena (by unfold I64; omega)).mono ?_
  rintro e w5 ⟨rfl, q1⟩
  obtain ⟨S5, h5⟩ := HS4.out.turned q1
  have HS5 := Lib.hid h5
  clear q1 h5
  go_wp2_with fail
  refine (Put_any p 8 0 56 S5 _ _ HS5.out.st.arena (by unfold I64; omega)).mono ?_
  rintro e w6 ⟨rfl, q1, q2⟩
  have HS6 := Lib.hid (HS5.out.put q1 q2)
  clear q1 q2
  go_wp2_with fail
  refine (Put_any p 8 1 7 S5 _ _ HS6.out.st.arena (by unfold I64; omega)).mono ?_
  rintro e w7 ⟨rfl, q1, q2⟩
  have HS7 := Lib.hid (HS6.out.put q1 q2)
  clear q1 q2
  go_wp2_with fail
  refine (Put_any p 56 0 8 S5 _ _ HS7.out.st.arena (by unfold I64; omega)).mono ?_
  rintro e w8 ⟨rfl, q1, q2⟩
  have HS8 := Lib.hid (HS7.out.put q1 q2)
  clear q1 q2
  go_wp2_with fail
  have e8 : ((((((AS.new 256).make 0 2).make 1 0).make 0 2).put 8 0 56).put 8 1 7).put 56 0 8 = ⟨[⟨0, [56, 7]⟩, ⟨1, []⟩, ⟨0, [8, 0]⟩], [], fun _ => none, 256⟩ := by rfl
  rw [e8] at HS8
  obtain ⟨l1, l2, l3⟩ := lit_table w8 56 trivial
  have HL := Lib.hid (And.intro l1 (And.intro l2 l3))
  clear l1 l2 l3
  have HS9 := Lib.hid (HS8.out.kept HL.out.2.2)
  have hS5 : ∀ k, S5 k → k < w8.heap.size := fun k hk => HS8.out.st.arena.lt hk
  refine (Collect_ok p _ _ _ _ [56] S5 _ [[0], []] _ _ _ HS9.out.st.arena HL.out.2.1 (by intro a ha; simp at ha; subst ha; exact .inr rfl) HL.out.1 (fun k hk e => by have := hS5 k e; omega) (fun k hk e => by simp [Value.ownBlock] at hk; have := hS5 k e; omega) (by simp)).mono ?_
  rintro e w9 ⟨v9, rfl, q1, q2, S9, q3, q4, q5, q6⟩
  have er : collectR ⟨[⟨0, [56, 7]⟩, ⟨1, []⟩, ⟨0, [8, 0]⟩], [], fun _ => none, 256⟩ [[0], []] [56] = [8] := by decide
  rw [er] at q1
  have eu : (collectS ⟨[⟨0, [56, 7]⟩, ⟨1, []⟩, ⟨0, [8, 0]⟩], [], fun _ => none, 256⟩ [[0], []] [56]).used = [⟨0, [40, 0]⟩, ⟨0, [8, 7]⟩] := by rfl
  obtain ⟨g9, k9, _, e9, _, _, _⟩ := row_addr q1 (by simp)
  subst e9
  have hc9 := row_int q1 (j := 0) (by simp)
  have H9 := Lib.hid (And.intro q3 (show Fr (fun _ => False) w w9 from HS9.out.st.fr.trans q4 (fun _ h => h) (fun i hi e => by have := HS9.out.st.new i e; omega)))
  clear q1 q2 q3 q4 q5 q6 hS5
  simp only [List.length_cons, List.length_nil] at hc9 ⊢
  obtain ⟨t9, ht9⟩ : ∃ t, t = collectS ⟨[⟨0, [56, 7]⟩, ⟨1, []⟩, ⟨0, [8, 0]⟩], [], fun _ => none, 256⟩ [[0], []] [56] := ⟨_, rfl⟩
  rw [← ht9] at H9 eu
  clear ht9
  have Eu := Lib.hid eu
  clear eu
  go_wp2_with fail
  refine (Get_any p 8 0 S9 t9 _ H9.out.1).mono ?_
  rw [Eu.out, show getV (findOb 0 [⟨0, [40, 0]⟩, ⟨0, [8, 7]⟩] 8) 0 = 40 from rfl]
  rintro e w10 ⟨rfl, n1, rfl⟩
  have HB := Lib.hid (H9.out.1.drewN n1)
  go_wp2_with fail
  refine (Get_any p 40 1 S9 t9 _ HB.out).mono ?_
  rw [Eu.out, show getV (findOb 0 [⟨0, [40, 0]⟩, ⟨0, [8, 7]⟩] 40) 1 = 7 from rfl]
  rintro e w11 ⟨rfl, n2, rfl⟩
  have HB2 := Lib.hid (H9.out.1.drewN (n1 + n2))
  go_wp2_with fail
  refine (Used_any p S9 t9 _ HB2.out).mono ?_
  rw [Eu.out, show ((tot [(⟨0, [40, 0]⟩ : Ob), ⟨0, [8, 7]⟩] : Nat) : Int) = 64 from rfl]
  rintro e w12 ⟨rfl, hw⟩
  have HF := Lib.hid (show Fr (fun _ => False) w w12 from by rw [hw]; exact H9.out.2.trans (Fr.drewN _ _ _) (fun _ h => h) (fun _ _ h => h))
  clear hw
  go_wp2
  go_ret
  exact ⟨rfl, HF.out⟩
end Go.Proofs.Ytniifefmjdjebaa
