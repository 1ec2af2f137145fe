/- Plain words for the arena: bytes of a number, objects as bytes, footprints, maps of int64 to whole numbers, append of zeros. No program in sight. · 'append(b, make([]T, k)...)' onto a row of the call's own: one law. · Walks: number and set. · Walk: set. · Objects as bytes; walks: is, kind, slots, place. · Walk: lay. · The arena as a whole; walks of its methods that only read. · Walks: Get, Put, Make. · Walks: Make, New, Flip. · Walks: Clone, All, Bytes. -/
import Derived.WalkKit
import Derived.WalkSpells
import Derived.Lib.Hide
import Derived.Lib.AppendZerosOnto
import Derived.Test.YtniifefmjdjebaaRows
import Derived.WalkLawsBesides
import Derived.Maps.AppendAt
import Derived.Deep.QuietTactic
import Derived.BigQuiet
import Derived.StillTailTactics
import Derived.Deep.DeepCutAuto
namespace Go.Proofs.Ytniifefmjdjebaa
open Go.RowKit
set_option linter.unusedVariables false
set_option linter.unusedSimpArgs false

/-! ### bytes -/
/-- Byte k (0: the most significant) of a number of 64 bits. -/
def byteAt (n : Int) (k : Nat) : Int := n / 256 ^ (7 - k) % 256
def w8 (n : Int) : List Int := [byteAt n 0, byteAt n 1, byteAt n 2, byteAt n 3, byteAt n 4, byteAt n 5, byteAt n 6, byteAt n 7]
def be (l : List Int) : Int := l.foldl (fun a x => a * 256 + x) 0
def num (l : List Int) : Int := wrap64 (be l)
theorem w8_length (n : Int) : (w8 n).length = 8 := rfl
theorem byteAt_range (n : Int) (k : Nat) : 0 ≤ byteAt n k ∧ byteAt n k ≤ 255 := by unfold byteAt; omega
theorem w8_range (n : Int) : ∀ x ∈ w8 n, 0 ≤ x ∧ x ≤ 255 := by
  intro x hx
  simp only [w8, List.mem_cons, List.not_mem_nil, or_false] at hx
  rcases hx with h | h | h | h | h | h | h | h <;> subst h <;> exact byteAt_range _ _
theorem be_w8 (n : Int) : be (w8 n) = n % 18446744073709551616 := by
  simp only [be, w8, byteAt, List.foldl, Nat.reduceSub, Int.reducePow]
  omega
theorem num_w8 (n : Int) (h : -9223372036854775808 ≤ n ∧ n ≤ 9223372036854775807) : num (w8 n) = n := by
  unfold num; rw [be_w8]; unfold wrap64; omega
theorem be_snoc (l : List Int) (x : Int) : be (l ++ [x]) = be l * 256 + x := by simp [be]
theorem fold_range : ∀ (l : List Int) (a : Int), 0 ≤ a → (∀ x ∈ l, 0 ≤ x ∧ x ≤ 255) → 0 ≤ l.foldl (fun a x => a * 256 + x) a ∧ l.foldl (fun a x => a * 256 + x) a < (a + 1) * 256 ^ l.length
  | [], a, h0, _ => by simp; omega
  | x :: l, a, h0, h => by
    have hx := h x (by simp)
    have := fold_range l (a * 256 + x) (by omega) (fun y hy => h y (by simp [hy]))
    refine ⟨this.1, Int.lt_of_lt_of_le this.2 ?_⟩
    rw [List.length_cons, Int.pow_succ, Int.mul_comm (256 ^ l.length) 256, ← Int.mul_assoc]
    exact Int.mul_le_mul_of_nonneg_right (by omega) (Int.pow_nonneg (by omega))
theorem be_range (l : List Int) (h : ∀ x ∈ l, 0 ≤ x ∧ x ≤ 255) : 0 ≤ be l ∧ be l < 256 ^ l.length := by
  have := fold_range l 0 (by omega) h
  simpa [be] using this
/-- The bytes of the number that eight bytes say are these bytes. -/
theorem w8_num (l : List Int) (h8 : l.length = 8) (h : ∀ x ∈ l, 0 ≤ x ∧ x ≤ 255) : w8 (num l) = l := by
  match l, h8 with
  | [a, b, c, d, e, f, g, i], _ =>
    simp only [List.mem_cons, List.not_mem_nil, or_false, forall_eq_or_imp, forall_eq] at h
    simp only [num, be, w8, byteAt, List.foldl, Nat.reduceSub, Int.reducePow, wrap64]
    congr 1 <;> (try omega)
    congr 1 <;> (try omega)
    congr 1 <;> (try omega)
    congr 1 <;> (try omega)
    congr 1 <;> (try omega)
    congr 1 <;> (try omega)
    congr 1 <;> (try omega)
    congr 1 <;> (try omega)

/-! ### footprints -/
/-- w' is w but for the blocks in S and for new ones. -/
structure Fr (S : Nat → Prop) (w w' : World) : Prop where
  os : w'.os = w.os
  tape : w'.tape = w.tape
  output : w'.output = w.output
  size : w.heap.size ≤ w'.heap.size
  block : ∀ k, k < w.heap.size → ¬ S k → w'.heap[k]? = w.heap[k]?
theorem Fr.refl (S : Nat → Prop) (w : World) : Fr S w w := ⟨rfl, rfl, rfl, Nat.le_refl _, fun _ _ _ => rfl⟩
theorem Fr.trans {S T U : Nat → Prop} {a b c : World} (h : Fr S a b) (k : Fr T b c) (hs : ∀ i, S i → U i) (ht : ∀ i, i < a.heap.size → T i → U i) : Fr U a c :=
  ⟨k.os.trans h.os, k.tape.trans h.tape, k.output.trans h.output, Nat.le_trans h.size k.size, fun i hi hu => (k.block i (Nat.lt_of_lt_of_le hi h.size) (fun e => hu (ht i hi e))).trans (h.block i hi (fun e => hu (hs i e)))⟩
theorem Fr.mono {S U : Nat → Prop} {a b : World} (h : Fr S a b) (hs : ∀ i, i < a.heap.size → S i → U i) : Fr U a b :=
  ⟨h.os, h.tape, h.output, h.size, fun i hi hu => h.block i hi (fun e => hu (hs i hi e))⟩
theorem Fr.of_grown {w w' : World} {row : Option Nat} (h : w.grownBy w' row) {S : Nat → Prop} (hs : ∀ k, row = some k → S k) : Fr S w w' :=
  ⟨h.os, h.tape, h.output, h.size, fun k hk hn => h.block k hk (fun e => hn (hs k e.symm))⟩
theorem Fr.of_below {w w' : World} {B : Nat} (h : Below B w w') {S : Nat → Prop} (hs : ∀ k, k < w.heap.size → B ≤ k → S k) : Fr S w w' :=
  ⟨h.os, h.tape, h.output, h.size, fun k hk hn => h.block k (Nat.lt_of_not_le (fun e => hn (hs k hk e)))⟩
theorem Fr.below {S : Nat → Prop} {w w' : World} {B : Nat} (h : Fr S w w') (hB : B ≤ w.heap.size) (hs : ∀ k, S k → B ≤ k) : Below B w w' :=
  ⟨h.os, h.tape, h.output, h.size, fun k hk => h.block k (by omega) (fun e => by have := hs k e; omega)⟩
theorem Fr.grown {S : Nat → Prop} {w w' : World} (h : Fr S w w') {row : Option Nat} (hs : ∀ k, k < w.heap.size → S k → row = some k) : w.grownBy w' row :=
  ⟨h.os, h.tape, h.output, h.size, fun k hk hn => h.block k hk (fun e => hn (hs k hk e).symm)⟩
theorem Fr.drew (S : Nat → Prop) (w : World) : Fr S w w.drew := ⟨rfl, rfl, rfl, Nat.le_refl _, fun _ _ _ => rfl⟩
theorem Fr.alloc (S : Nat → Prop) (w : World) (o : Obj) : Fr S w (w.alloc o) := Fr.of_grown (World.grownBy_alloc w o none) (by simp)
theorem Fr.setCell {S : Nat → Prop} (w : World) (a : Addr) (v : Value) (h : S a.block) : Fr S w (w.setCell a v) :=
  ⟨rfl, rfl, rfl, by simp [World.setCell], fun k _ hn => Below.heap_setCell _ _ _ _ (fun e => hn (e ▸ h))⟩
theorem Fr.cell {S : Nat → Prop} {w w' : World} (h : Fr S w w') {a : Addr} {v : Value} (hc : w.cell? a = some v) (hn : ¬ S a.block) : w'.cell? a = some v :=
  (World.cell?_of_block (h.block a.block (World.block_lt_of_cell? w a hc) hn)).trans hc
theorem Fr.heap {S : Nat → Prop} {w w' : World} (h : Fr S w w') {b : Nat} {o : Obj} (hb : w.heap[b]? = some o) (hn : ¬ S b) : w'.heap[b]? = some o :=
  (h.block b (Array.getElem?_eq_some_iff.1 hb).1 hn).trans hb
theorem Fr.row {S : Nat → Prop} {w w' : World} (h : Fr S w w') {base e size n : Nat} {v : Value} {xs : List Value} (ho : w.ownsRow base e size v n xs) (hn : ∀ k, v.ownBlock = some k → ¬ S k) : w'.ownsRow base e size v n xs := by
  refine ⟨ho.1, ?_⟩
  rcases ho.2 with h1 | ⟨g, cap, cur, rfl, hb, hg, rest⟩
  · exact .inl h1
  · exact .inr ⟨g, cap, cur, rfl, hb, h.heap hg (hn g rfl), rest⟩

/-! ### maps of int64 to int64 or int -/
def lookI : List MapEntry → Int → Option Int
  | [], _ => none
  | e :: es, k => match e.key, e.val with
    | .int .i64 a, .int .i64 v => if k = a then some v else lookI es k
    | _, _ => lookI es k
def Good (e : MapEntry) : Prop := ∃ k v, e.key = .int .i64 k ∧ e.val = .int .i64 v
/-- Block b of w is a map that says f. -/
def IMap (w : World) (b : Nat) (f : Int → Option Int) : Prop := ∃ es clock, w.heap[b]? = some (.map es clock) ∧ (∀ e ∈ es.toList, Good e) ∧ ∀ k, lookI es.toList k = f k
/-- The same, nil allowed. -/
def OMap (w : World) (mo : Option Nat) (f : Int → Option Int) : Prop := match mo with | none => ∀ k, f k = none | some b => IMap w b f
theorem IMap.lt {w : World} {b : Nat} {f : Int → Option Int} (h : IMap w b f) : b < w.heap.size := by obtain ⟨es, c, hb, _⟩ := h; exact (Array.getElem?_eq_some_iff.1 hb).1
theorem Fr.imap {S : Nat → Prop} {w w' : World} (h : Fr S w w') {b : Nat} {f : Int → Option Int} (hm : IMap w b f) (hn : ¬ S b) : IMap w' b f := by
  obtain ⟨es, c, hb, r⟩ := hm
  exact ⟨es, c, h.heap hb hn, r⟩
theorem Fr.omap {S : Nat → Prop} {w w' : World} (h : Fr S w w') {mo : Option Nat} {f : Int → Option Int} (hm : OMap w mo f) (hn : ∀ b, mo = some b → ¬ S b) : OMap w' mo f := by
  cases mo with
  | none => exact hm
  | some b => exact h.imap hm (hn b rfl)
theorem IMap.ext {w : World} {b : Nat} {f g : Int → Option Int} (h : IMap w b f) (he : ∀ k, f k = g k) : IMap w b g := by
  obtain ⟨es, c, hb, r, q⟩ := h
  exact ⟨es, c, hb, r, fun k => (q k).trans (he k)⟩
theorem findNow_lookI (k : Int) : ∀ (es : List MapEntry) (i : Nat), (∀ e ∈ es, Good e) →
    (Instr.findNow (.int .i64) (.int .i64 k) es i = some none ∧ lookI es k = none) ∨ ∃ j v, Instr.findNow (.int .i64) (.int .i64 k) es i = some (some (i + j, .int .i64 v)) ∧ lookI es k = some v ∧ ∃ e, es[j]? = some e ∧ e.key = .int .i64 k
  | [], i, _ => .inl ⟨rfl, rfl⟩
  | e :: es, i, h => by
    obtain ⟨a, v, ha, hv⟩ := h e (by simp)
    by_cases hk : k = a
    · subst hk
      exact .inr ⟨0, v, by simp [Instr.findNow, Instr.sameNow, ha, hv], by simp [lookI, ha, hv], e, by simp, ha⟩
    · have hk' : (k == a) = false := by simpa using hk
      rcases findNow_lookI k es (i + 1) (fun e he => h e (by simp [he])) with ⟨h1, h2⟩ | ⟨j, u, h1, h2, e', h3, h4⟩
      · exact .inl ⟨by simp [Instr.findNow, Instr.sameNow, ha, hk', h1], by simp [lookI, ha, hv, hk, h2]⟩
      · exact .inr ⟨j + 1, u, by simp [Instr.findNow, Instr.sameNow, ha, hk', h1]; omega, by simp [lookI, ha, hv, hk, h2], e', by simpa using h3, h4⟩
section
variable {P : Program} {w : World} {b : Nat} {f : Int → Option Int} {t kt et : TypeId}
theorem key_int (k : Int) : MapKept.IsKey (.int .i64) (.int .i64 k) := by simp [MapKept.IsKey]
theorem run_lookup_nil (ht : P.underlying t = some (.map kt et)) (hk : P.underlying kt = some (.int .i64)) (hz : ∀ w, (zeroValue et).run P w = .ok (.int .i64 0) w) (k : Int) (w : World) :
    (Instr.lookup t (.map none) (.int .i64 k) true).run P w = .ok (.tuple #[.int .i64 0, .bool false]) w := by
  unfold Instr.lookup
  simp only [Sem.run_bind, Sem.run_pure, run_underlying ht, Result.andThen_ok, MapKept.run_checkKey (P := P) (w := w) hk (key_int k) _ 9999, MapKept.run_findKey (P := P) (w := w) (l := []) hk (show Instr.findNow (.int .i64) (.int .i64 k) [] 0 = some none from rfl), hz]
  rfl
theorem IMap.look (h : IMap w b f) (ht : P.underlying t = some (.map kt et)) (hk : P.underlying kt = some (.int .i64)) (hz : ∀ w, (zeroValue et).run P w = .ok (.int .i64 0) w) (k : Int) :
    (Instr.lookup t (.map (some b)) (.int .i64 k) true).run P w = .ok (.tuple #[.int .i64 ((f k).getD 0), .bool (f k).isSome]) w := by
  obtain ⟨es, clock, hb, hg, hf⟩ := h
  unfold Instr.lookup
  rcases findNow_lookI k es.toList 0 hg with ⟨h1, h2⟩ | ⟨j, v, h1, h2, _⟩
  · simp only [Sem.run_bind, Sem.run_pure, run_underlying ht, Result.andThen_ok, MapKept.run_getObj_map hb, MapKept.run_checkKey (P := P) (w := w) hk (key_int k) _ 9999, MapKept.run_findKey (P := P) (w := w) hk h1, hz, ← hf k, h2]
    rfl
  · simp only [Sem.run_bind, Sem.run_pure, run_underlying ht, Result.andThen_ok, MapKept.run_getObj_map hb, MapKept.run_checkKey (P := P) (w := w) hk (key_int k) _ 9999, MapKept.run_findKey (P := P) (w := w) hk h1, hz, ← hf k, h2]
    rfl
theorem OMap.look {mo : Option Nat} (h : OMap w mo f) (ht : P.underlying t = some (.map kt et)) (hk : P.underlying kt = some (.int .i64)) (hz : ∀ w, (zeroValue et).run P w = .ok (.int .i64 0) w) (k : Int) :
    (Instr.lookup t (.map mo) (.int .i64 k) true).run P w = .ok (.tuple #[.int .i64 ((f k).getD 0), .bool (f k).isSome]) w := by
  cases mo with
  | none => rw [run_lookup_nil ht hk hz, show f k = none from h k]; rfl
  | some b => exact IMap.look h ht hk hz k

/-- What a store makes of the entries. -/
def putE (es : Array MapEntry) (clock : Nat) (k v : Int) : Array MapEntry × Nat :=
  match Instr.findNow (.int .i64) (.int .i64 k) es.toList 0 with
  | some (some (i, _)) => (es.modify i fun e => { e with key := .int .i64 k, val := .int .i64 v }, clock)
  | _ => (es.push { key := .int .i64 k, val := .int .i64 v, born := clock }, clock + 1)
theorem run_mapUpdate_int {es : Array MapEntry} {clock : Nat} (hb : w.heap[b]? = some (.map es clock)) (hg : ∀ e ∈ es.toList, Good e) (ht : P.underlying t = some (.map kt et)) (hk : P.underlying kt = some (.int .i64)) (k v : Int) :
    (Instr.mapUpdate t (.map (some b)) (.int .i64 k) (.int .i64 v)).run P w = .ok () (ChangeMaps.setBlock w b (.map (putE es clock k v).1 (putE es clock k v).2)) := by
  unfold Instr.mapUpdate putE
  rcases findNow_lookI k es.toList 0 hg with ⟨h1, h2⟩ | ⟨j, u, h1, h2, e, h3, h4⟩
  · simp only [Sem.run_bind, Sem.run_pure, run_underlying ht, Result.andThen_ok, MapKept.run_getObj_map hb, MapKept.run_checkKey (P := P) (w := w) hk (key_int k) _ 9999, MapKept.run_findKey (P := P) (w := w) hk h1, h1, MapKept.run_setObj_map _ hb]
    rfl
  · have h5 : ((es[0 + j]?).map (·.key)).getD (.int .i64 k) = .int .i64 k := by
      have : es[j]? = some e := by simpa using h3
      simp [this, h4]
    simp only [Sem.run_bind, Sem.run_pure, run_underlying ht, Result.andThen_ok, MapKept.run_getObj_map hb, MapKept.run_checkKey (P := P) (w := w) hk (key_int k) _ 9999, MapKept.run_findKey (P := P) (w := w) hk h1, h1, h5, MapKept.run_keyThatStays (key_int k), MapKept.run_setObj_map _ hb]
    rfl
theorem lookI_append (k : Int) : ∀ (l r : List MapEntry), (∀ e ∈ l, Good e) → lookI (l ++ r) k = (lookI l k).or (lookI r k)
  | [], r, _ => by simp [lookI]
  | e :: l, r, h => by
    obtain ⟨a, v, ha, hv⟩ := h e (by simp)
    by_cases hk : k = a
    · simp [lookI, ha, hv, hk]
    · simp [lookI, ha, hv, hk, lookI_append k l r (fun e he => h e (by simp [he]))]
theorem lookI_modify (k k' v : Int) : ∀ (l : List MapEntry) (j : Nat) (u : Int), (∀ e ∈ l, Good e) → Instr.findNow (.int .i64) (.int .i64 k) l 0 = some (some (j, .int .i64 u)) →
    lookI (l.modify j fun e => { e with key := .int .i64 k, val := .int .i64 v }) k' = if k' = k then some v else lookI l k' := by
  intro l
  have gen : ∀ (l : List MapEntry) (i j : Nat) (u : Int), (∀ e ∈ l, Good e) → Instr.findNow (.int .i64) (.int .i64 k) l i = some (some (i + j, .int .i64 u)) →
      lookI (l.modify j fun e => { e with key := .int .i64 k, val := .int .i64 v }) k' = if k' = k then some v else lookI l k' := by
    intro l
    induction l with
    | nil => intro i j u _ h; simp [Instr.findNow] at h
    | cons e l ih =>
      intro i j u hg h
      obtain ⟨a, x, ha, hx⟩ := hg e (by simp)
      by_cases hk : k = a
      · subst hk
        simp [Instr.findNow, Instr.sameNow, ha] at h
        obtain ⟨h1, _⟩ := h
        obtain rfl : j = 0 := by omega
        by_cases hq : k' = k <;> simp [lookI, ha, hx, hq]
      · have hk' : (k == a) = false := by simpa using hk
        simp [Instr.findNow, Instr.sameNow, ha, hk'] at h
        rcases findNow_lookI k l (i + 1) (fun e he => hg e (by simp [he])) with ⟨h1, _⟩ | ⟨m, u', h1, _⟩
        · rw [h1] at h; simp at h
        · have hm : j = m + 1 := by rw [h1] at h; simp at h; omega
          subst hm
          have := ih (i + 1) m u (fun e he => hg e (by simp [he])) (by rw [h]; congr 2; simp; omega)
          by_cases hq : k' = a
          · subst hq
            simp [lookI, ha, hx, Ne.symm hk]
          · simp [lookI, ha, hx, hq, this]
  intro j u hg h
  exact gen l 0 j u hg (by simpa using h)
theorem putE_ok {es : Array MapEntry} (clock : Nat) (hg : ∀ e ∈ es.toList, Good e) (k v : Int) :
    (∀ e ∈ (putE es clock k v).1.toList, Good e) ∧ ∀ k', lookI (putE es clock k v).1.toList k' = if k' = k then some v else lookI es.toList k' := by
  unfold putE
  rcases findNow_lookI k es.toList 0 hg with ⟨h1, h2⟩ | ⟨j, u, h1, h2, e, h3, h4⟩
  · rw [h1]
    refine ⟨?_, ?_⟩
    · intro e he
      simp at he
      rcases he with he | he
      · exact hg e (by simpa using he)
      · subst he; exact ⟨k, v, rfl, rfl⟩
    · intro k'
      simp only [Array.toList_push]
      rw [lookI_append k' _ _ hg]
      by_cases hk : k' = k
      · subst hk; simp [h2, lookI]
      · simp [lookI, hk]
  · rw [h1]
    refine ⟨?_, ?_⟩
    · intro e' he
      simp only [Array.toList_modify] at he
      obtain ⟨i, hi⟩ := List.getElem?_of_mem he
      rw [List.getElem?_modify] at hi
      cases hq : es.toList[i]? with
      | none => rw [hq] at hi; simp at hi
      | some e0 =>
        rw [hq] at hi
        simp at hi
        split at hi
        · subst hi; exact ⟨k, v, rfl, rfl⟩
        · subst hi; exact hg _ (List.mem_of_getElem? hq)
    · intro k'
      simp only [Array.toList_modify]
      exact lookI_modify k k' v es.toList (0 + j) u hg h1
/-- A store into a map, as an equation on the run in whatever world has that heap. -/
theorem IMap.put (h : IMap w b f) (ht : P.underlying t = some (.map kt et)) (hk : P.underlying kt = some (.int .i64)) (k v : Int) :
    ∃ o, (∀ W : World, W.heap[b]? = w.heap[b]? → (Instr.mapUpdate t (.map (some b)) (.int .i64 k) (.int .i64 v)).run P W = .ok () (ChangeMaps.setBlock W b o)) ∧
      ∀ W : World, W.heap[b]? = w.heap[b]? → IMap (ChangeMaps.setBlock W b o) b (fun k' => if k' = k then some v else f k') := by
  obtain ⟨es, clock, hb, hg, hf⟩ := h
  refine ⟨_, fun W hW => run_mapUpdate_int (hW.trans hb) hg ht hk k v, fun W hW => ⟨_, _, MapKept.heap_set (hW.trans hb) |>.1, (putE_ok clock hg k v).1, fun k' => ?_⟩⟩
  rw [(putE_ok clock hg k v).2, hf]
/-- 'clear(m)'. -/
theorem IMap.clear (h : IMap w b f) (ht : P.underlying t = some (.map kt et)) (ty : TypeId) :
    ∃ o, (∀ W : World, W.heap[b]? = w.heap[b]? → (Builtin.clear_ #[t] ty #[.map (some b)]).run P W = .ok (.tuple #[]) (ChangeMaps.setBlock W b o)) ∧
      ∀ W : World, W.heap[b]? = w.heap[b]? → IMap (ChangeMaps.setBlock W b o) b (fun _ => none) := by
  obtain ⟨es, clock, hb, hg, hf⟩ := h
  refine ⟨.map #[] clock, fun W hW => ?_, fun W hW => ⟨_, _, MapKept.heap_set (hW.trans hb) |>.1, by simp, fun _ => rfl⟩⟩
  have hb' := hW.trans hb
  simp [Builtin.clear_, run_underlying ht, Result.andThen, MapKept.run_getObj_map hb', MapKept.run_setObj_map _ hb', ChangeMaps.setBlock]
theorem Fr.setBlock {S : Nat → Prop} (w : World) (b : Nat) (o : Obj) (h : S b) : Fr S w (ChangeMaps.setBlock w b o) :=
  ⟨rfl, rfl, rfl, by simp [ChangeMaps.setBlock], fun k _ hn => by
    have : k ≠ b := fun e => hn (e ▸ h)
    simp only [ChangeMaps.setBlock, Array.getElem?_setIfInBounds]
    rw [if_neg (Ne.symm this)]⟩
theorem IMap.made (w : World) : IMap (w.alloc (.map #[] 0)) w.heap.size (fun _ => none) := ⟨#[], 0, heap_alloc_new w _, by simp, fun _ => rfl⟩
end
end Go.Proofs.Ytniifefmjdjebaa
namespace Go.Proofs.Ytniifefmjdjebaa
open Go.RowKit
set_option linter.unusedVariables false
set_option linter.unusedSimpArgs false
theorem zeroCells_one (z : Value) (hz : z.cells = #[z]) (k : Nat) : (Builtin.zeroCells z.cells k).toList = List.replicate k z := by
  rw [hz]
  simp only [Builtin.zeroCells, List.size_toArray, List.length_cons, List.length_nil, Nat.zero_add, Nat.mul_one, Nat.mod_one]
  apply List.ext_getElem
  · simp
  · intro i h1 h2
    simp
theorem run_append_zeros {P : Program} (w : World) (base : Nat) (t tn ty e : TypeId) (i : TypeInfo) (z : Value) (kq kn : IntKind) (bytes : Nat) (ht : P.underlying t = some (.slice e)) (htn : P.underlying tn = some (.int kn)) (hi : P.info? e = some i) (hz : i.zero = some z)
    (hsize : i.size = 1) (hby : i.bytes = bytes) (hzs : z.cells = #[z]) (hone : z.oneCell' = true)
    (v : Value) (n : Nat) (xs : List Value) (hown : w.ownsRow base e 1 v n xs) (k : Nat) (h63 : n + k ≤ maxLen) (hbytes : (n + k) * bytes ≤ 140737488355328) (hbase : base ≤ w.heap.size) :
    ∃ v' w', (Builtin.append_ #[t, tn] ty #[v, .int kq k]).run P w = .ok v' w' ∧ w'.ownsRow base e 1 v' (n + k) (xs ++ List.replicate k z) ∧ w.grownBy w' v.ownBlock ∧ (∀ g, v'.ownBlock = some g → v.ownBlock = some g ∨ w.heap.size ≤ g) := by
  have hsmall : n + k ≤ 9223372036854775807 := by simp only [maxLen] at h63; omega
  have hw : IntKind.i64.wrap (k : Int) = k := by rw [IntKind.wrap_i64]; omega
  have hneg : ¬ ((k : Int) < 0) := by omega
  have hlen : (xs ++ List.replicate k z).length = (n + k) * 1 := by rw [List.length_append, hown.1]; simp
  have hkb : k * i.bytes ≤ 281474976710656 := by
    rw [hby]
    have : k * bytes ≤ (n + k) * bytes := Nat.mul_le_mul_right _ (by omega)
    omega
  have h48i : ¬ (281474976710656 < (k : Int) * (i.bytes : Int)) := by
    rw [← Int.natCast_mul]; omega
  have grown : ∀ old, old < n + k →
      (w.drew.alloc (.cells (xs.toArray ++ Builtin.zeroCells z.cells k ++ Builtin.zeroCells z.cells (grownCap w (n + k) old e - (n + k))) e)).ownsRow base e 1
        (.slice (some ⟨w.heap.size, 0, none⟩) (n + k) (grownCap w (n + k) old e)) (n + k) (xs ++ List.replicate k z) ∧
      w.grownBy (w.drew.alloc (.cells (xs.toArray ++ Builtin.zeroCells z.cells k ++ Builtin.zeroCells z.cells (grownCap w (n + k) old e - (n + k))) e)) v.ownBlock := by
    intro old ho
    have hge := grownCap_ge w (n + k) old e
    have hcm : grownCap w (n + k) old e ≤ maxLen := grownCap_le_maxLen w (n + k) old e h63
    have hx1 := hown.1
    refine ⟨⟨hlen, .inr ⟨w.heap.size, _, _, rfl, hbase, heap_alloc_new w.drew _, hge, hcm, ?_, ?_⟩⟩, ⟨rfl, rfl, rfl, by simp, fun j hj _ => Below.heap_alloc w.drew _ j hj⟩⟩
    · simp only [Array.size_append, List.size_toArray, size_zeroCells, hzs, List.length_cons, List.length_nil, hx1]
      omega
    · simp only [Array.toList_append, zeroCells_one z hzs]
      rw [← hlen]
      exact List.take_left
  rcases hown.2 with ⟨rfl, rfl⟩ | ⟨g, cap, cur, rfl, hbg, hg, hnc, hcm, hcs, htake⟩
  · have hx : xs = [] := List.eq_nil_of_length_eq_zero (by simpa using hown.1)
    subst hx
    by_cases hk : k = 0
    · subst hk
      refine ⟨.slice none 0 0, w, ?_, by simpa using World.ownsRow_nil w base e 1, ⟨rfl, rfl, rfl, Nat.le_refl _, fun _ _ _ => rfl⟩, by simp [Value.ownBlock]⟩
      simp [Builtin.append_, run_underlying ht, run_underlying htn, sizeOf, typeInfo, hi, asInt, asIntOf, IntKind.wrap_i64]
    · have hr := Lib.run_append_nil_zeros (P := P) w t tn ty e i z kq kn ht htn hi hz k (by omega) (by omega) (by omega) hkb
      have hgr := grown 0 (by omega)
      simp only [Nat.zero_add, List.nil_append, Array.empty_append] at hgr ⊢
      exact ⟨_, _, hr, hgr.1, hgr.2, fun g hg => .inr (by simp [Value.ownBlock] at hg; omega)⟩
  · by_cases hroom : n + k ≤ cap
    · have hst := run_storeCells_at P g n e (List.replicate k z) 0 cur w hg (by simp; omega) (by intro u hu; rw [List.eq_of_mem_replicate hu]; exact hone)
      simp only [Nat.add_zero, List.length_replicate] at hst
      refine ⟨.slice (some ⟨g, 0, none⟩) (n + k) cap, w.setRow g (cur.toList.take n ++ List.replicate k z ++ cur.toList.drop (n + k)).toArray, ?_, ⟨hlen, .inr ⟨g, cap, _, rfl, hbg, setRow_heap w g cur _ e _ hg, hroom, hcm, ?_, ?_⟩⟩, ⟨rfl, rfl, rfl, by simp, fun j _ hj => setRow_other w g j _ (fun e => hj (by simp [Value.ownBlock, e]))⟩, fun g' hg' => .inl hg'⟩
      · by_cases hk : k = 0
        · subst hk
          rw [show (cur.toList.take n ++ List.replicate 0 z ++ cur.toList.drop (n + 0)).toArray = cur from by simp, setRow_self w g cur e (0, 0) hg]
          have hn : n ≤ cap := hnc
          simp [Builtin.append_, run_underlying ht, run_underlying htn, sizeOf, typeInfo, hi, asInt, asIntOf, IntKind.wrap_i64, hn, storeCells]
        · have hz2 : (zeroValue e).run P w = .ok z w := by simp [zeroValue, typeInfo, hi, hz]
          simp [Builtin.append_, run_underlying ht, run_underlying htn, sizeOf, typeInfo, hi, asInt, asIntOf, hw, hneg, h48i, hroom, hsize, hk, hz2, zeroCells_one z hzs]
          rw [show (⟨g, 0, none⟩ : Addr).add n = ⟨g, n, none⟩ from by unfold Addr.add; split <;> simp_all, hst]
          simp [Result.andThen]
      · simp only [List.size_toArray, List.length_append, List.length_take, List.length_drop, Array.length_toList, List.length_replicate]
        omega
      · have e1 : cur.toList.take n = xs := by simpa using htake
        simp only [e1, Nat.mul_one]
        rw [show n + k = (xs ++ List.replicate k z).length from by rw [hlen]; omega]
        exact List.take_left
    · have holds : ∀ j u, xs[j]? = some u → w.cell? ((⟨g, 0, none⟩ : Addr).add j) = some u := hown.cells (g := g) rfl
      have hold : (Builtin.firstCells i.size n (.slice (some ⟨g, 0, none⟩) n cap)).run P w.drew = .ok xs.toArray w.drew := by
        rw [hsize]; exact run_firstCells_some w.drew 1 n ⟨g, 0, none⟩ n cap xs hown.1 holds
      by_cases hk : k = 0
      · omega
      · have hr := Lib.run_append_grow_zeros (P := P) w t tn ty e i z kq kn ht htn hi hz (some ⟨g, 0, none⟩) n cap xs hold k (by omega) (by omega) (by omega) (by omega) hkb (by rw [hby]; exact growslice_fits (by omega) hbytes)
        have hgr := grown cap (by omega)
        exact ⟨_, _, hr, hgr.1, hgr.2, fun g' hg' => .inr (by simp [Value.ownBlock] at hg'; omega)⟩
end Go.Proofs.Ytniifefmjdjebaa
namespace Go.Proofs.Ytniifefmjdjebaa
open Go.RowKit
set_option linter.unusedVariables false
set_option linter.unusedSimpArgs false

theorem be_take_succ (l : List Int) (k : Nat) (h : k < l.length) : be (l.take (k + 1)) = be (l.take k) * 256 + l.getD k 0 := by
  rw [List.take_succ_eq_append_getElem h, be_snoc]
  simp [List.getD_eq_getElem?_getD, h]
theorem or_byte (a x : Int) (ha : 0 ≤ a ∧ a < 72057594037927936) (hx : 0 ≤ x ∧ x ≤ 255) : bits BinOp.or .u64 (IntKind.u64.wrap (a * 256)) (IntKind.u64.wrap x) = a * 256 + x := by
  obtain ⟨A, rfl⟩ := Int.eq_ofNat_of_zero_le ha.1
  obtain ⟨X, rfl⟩ := Int.eq_ofNat_of_zero_le hx.1
  rw [IntWalk.u64_in _ (by omega), IntWalk.u64_in _ (by omega)]
  have h := bits_or_u64_nat (A * 256) X (by omega) (by omega)
  rw [show ((A * 256 : Nat) : Int) = (A : Int) * 256 from by omega] at h
  rw [h, Nat.mul_comm, show (256 : Nat) = 2 ^ 8 from rfl, ← Nat.two_pow_add_eq_or_of_lt (by omega)]
  omega
theorem be_step (l : List Int) (h8 : l.length = 8) (hr : ∀ x ∈ l, 0 ≤ x ∧ x ≤ 255) (k : Nat) (hk : k < 8) :
    bits BinOp.or .u64 (IntKind.u64.wrap (be (l.take k) * 256)) (IntKind.u64.wrap (l[k]?.getD 0)) = be (l.take (k + 1)) := by
  have h1 := be_range (l.take k) (fun x hx => hr x (List.mem_of_mem_take hx))
  have h2 : 0 ≤ l[k]?.getD 0 ∧ l[k]?.getD 0 ≤ 255 := by
    rw [List.getElem?_eq_getElem (by omega)]
    exact hr _ (List.getElem_mem _)
  have h3 : (256 : Int) ^ (l.take k).length ≤ 72057594037927936 := by
    rw [List.length_take, Nat.min_eq_left (by omega)]
    have : k = 0 ∨ k = 1 ∨ k = 2 ∨ k = 3 ∨ k = 4 ∨ k = 5 ∨ k = 6 ∨ k = 7 := by omega
    rcases this with h | h | h | h | h | h | h | h <;> subst h <;> decide
  rw [or_byte _ _ ⟨h1.1, by omega⟩ h2, be_take_succ l k (by omega), List.getD_eq_getElem?_getD]
theorem u64_num (l : List Int) (h8 : l.length = 8) (hr : ∀ x ∈ l, 0 ≤ x ∧ x ≤ 255) : wrap64 (be (l.take 8)) = num l := by
  rw [List.take_of_length_le (by omega)]; rfl
set_option maxHeartbeats 400000 in
theorem number_any (p o g at' len cap : Nat) (bs : List Int) (w : World)
    (hb : w.cell? ⟨p, o, none⟩ = some (.slice (some ⟨g, 0, none⟩) len cap))
    (h8 : bs.length = 8) (hr : ∀ x ∈ bs, 0 ≤ x ∧ x ≤ 255)
    (hc : ∀ i, i < 8 → w.cell? ⟨g, at' + i, none⟩ = some (.int .u8 (bs.getD i 0)))
    (hat : at' + 8 ≤ len) (hcap : len ≤ cap) (hm : cap ≤ 9223372036854775807) :
    Calls Try.prog 68 #[.pointer (some ⟨p, o, none⟩), .int .i64 at'] w fun e w' => e = .returned (.int .i64 (num bs)) ∧ w' = w := by
  have H8 := Lib.hid h8; clear h8
  have Hr := Lib.hid hr; clear hr
  have Hc := Lib.hid hc; clear hc
  go_enter Try.func68, Try.ntmps68
  go_wp2
  go_loop [5, 7, 17] (fun v x i => ∃ k : Nat, k ≤ 8 ∧ i = .int .i64 k ∧ v = .int .u64 (be (bs.take k))) (fun _ _ i => 8 - (intOf i).toNat)
  case atStart => exact ⟨0, by omega, rfl, rfl⟩
  case round =>
    obtain ⟨k, hk, rfl, rfl⟩ := hrel
    by_cases hlt : k < 8
    · have hx := Hc.out k hlt
      have hxr : 0 ≤ bs.getD k 0 ∧ bs.getD k 0 ≤ 255 := by
        have : k < bs.length := by rw [H8.out]; exact hlt
        rw [List.getD_eq_getElem?_getD, List.getElem?_eq_getElem this]
        exact Hr.out _ (List.getElem_mem _)
      go_wp2
      go_round
      case rel => exact ⟨k + 1, by omega, by go_num, congrArg (Value.int .u64) (be_step bs H8.out Hr.out k hlt)⟩
      case measure => simp [intOf]; omega
    · obtain rfl : k = 8 := by omega
      go_wp2
      go_ret
      exact ⟨congrArg (fun x => Ending.returned (Value.int .i64 x)) (u64_num bs H8.out Hr.out), rfl⟩
end Go.Proofs.Ytniifefmjdjebaa
namespace Go.Proofs.Ytniifefmjdjebaa
open Go.RowKit
set_option linter.unusedVariables false
set_option linter.unusedSimpArgs false

/-- Eight bytes of a row, turned to those of n. -/
def put8 (bs : List Int) (a : Nat) (n : Int) : List Int := bs.take a ++ w8 n ++ bs.drop (a + 8)
def putK (bs : List Int) (a : Nat) (n : Int) (k : Nat) : List Int := bs.take (a + 8 - k) ++ (w8 n).drop (8 - k) ++ bs.drop (a + 8)
theorem grown_trans {a b c : World} {row : Option Nat} (h : a.grownBy b row) (k : b.grownBy c row) : a.grownBy c row :=
  ⟨k.os.trans h.os, k.tape.trans h.tape, k.output.trans h.output, Nat.le_trans h.size k.size, fun i hi hn => (k.block i (Nat.lt_of_lt_of_le hi h.size) hn).trans (h.block i hi hn)⟩
theorem cut8 (bs : List Int) (a : Nat) (h : a + 8 ≤ bs.length) : ∃ A b0 b1 b2 b3 b4 b5 b6 b7 C, bs = A ++ [b0, b1, b2, b3, b4, b5, b6, b7] ++ C ∧ A.length = a := by
  have h1 : bs = bs.take a ++ (bs.drop a).take 8 ++ bs.drop (a + 8) := by
    rw [List.append_assoc, show bs.drop (a + 8) = (bs.drop a).drop 8 from by rw [List.drop_drop], List.take_append_drop, List.take_append_drop]
  have h2 : ((bs.drop a).take 8).length = 8 := by simp; omega
  have h3 : (bs.take a).length = a := by simp; omega
  match hm : (bs.drop a).take 8, h2 with
  | [b0, b1, b2, b3, b4, b5, b6, b7], _ => exact ⟨bs.take a, b0, b1, b2, b3, b4, b5, b6, b7, bs.drop (a + 8), by rw [hm] at h1; exact h1, h3⟩
theorem putK_step (bs : List Int) (a : Nat) (n : Int) (k : Nat) (h : a + 8 ≤ bs.length) (hk : k < 8) : (putK bs a n k).set (a + (7 - k)) (IntKind.u8.wrap (n / 256 ^ k)) = putK bs a n (k + 1) := by
  obtain ⟨A, b0, b1, b2, b3, b4, b5, b6, b7, C, rfl, rfl⟩ := cut8 bs a h
  have : k = 0 ∨ k = 1 ∨ k = 2 ∨ k = 3 ∨ k = 4 ∨ k = 5 ∨ k = 6 ∨ k = 7 := by omega
  rw [IntKind.wrap_u8]
  rcases this with h | h | h | h | h | h | h | h <;> subst h <;>
    simp [putK, w8, byteAt, List.take_append, List.drop_append, List.set_append, List.append_assoc] <;> rw [List.take_of_length_le (by omega)]
theorem putK_zero (bs : List Int) (a : Nat) (n : Int) (h : a + 8 ≤ bs.length) : putK bs a n 0 = bs := by
  simp [putK, w8]
theorem putK_eight (bs : List Int) (a : Nat) (n : Int) : putK bs a n 8 = put8 bs a n := by
  simp [putK, put8]
theorem putK_length (bs : List Int) (a : Nat) (n : Int) (k : Nat) (h : a + 8 ≤ bs.length) (hk : k ≤ 8) : (putK bs a n k).length = bs.length := by
  simp [putK, w8_length]; omega
theorem put8_length (bs : List Int) (a : Nat) (n : Int) (h : a + 8 ≤ bs.length) : (put8 bs a n).length = bs.length := by
  rw [← putK_eight, putK_length _ _ _ _ h (by omega)]
theorem div_pow (n : Int) (k : Nat) : n / 256 ^ k / 256 = n / 256 ^ (k + 1) := by
  rw [Int.pow_succ, Int.ediv_ediv_of_nonneg (by exact Int.pow_nonneg (by omega))]
set_option maxHeartbeats 400000 in
theorem set_any (p o g at' len cap : Nat) (n : Int) (bs : List Int) (w : World)
    (hb : w.cell? ⟨p, o, none⟩ = some (.slice (some ⟨g, 0, none⟩) len cap)) (hpg : p ≠ g)
    (hown : w.ownsRow 0 5 1 (.slice (some ⟨g, 0, none⟩) len cap) len (bs.map (Value.int .u8)))
    (hat : at' + 8 ≤ len) (hm : len ≤ 9223372036854775807) :
    Calls Try.prog 64 #[.pointer (some ⟨p, o, none⟩), .int .i64 at', .int .i64 n] w fun e w' => e = .returned (.tuple #[]) ∧
      w'.ownsRow 0 5 1 (.slice (some ⟨g, 0, none⟩) len cap) len ((put8 bs at' n).map (Value.int .u8)) ∧ w.grownBy w' (some g) := by
  have HL : at' + 8 ≤ bs.length := by have := hown.1; simp at this; omega
  have Hown := Lib.hid hown; clear hown
  go_enter Try.func64, Try.ntmps64
  go_wp2
  go_loopw [2, 6] (fun v i wr => ∃ k : Nat, k ≤ 8 ∧ i = .int .i64 (7 - k) ∧ v = .int .i64 (n / 256 ^ k) ∧ wr.ownsRow 0 5 1 (.slice (some ⟨g, 0, none⟩) len cap) len ((putK bs at' n k).map (Value.int .u8)) ∧ w.grownBy wr (some g)) (fun _ i _ => (intOf i + 1).toNat)
  case atStart => exact ⟨0, by omega, by go_num, by simp, by rw [putK_zero _ _ _ HL]; exact Hown.out, ⟨rfl, rfl, rfl, Nat.le_refl _, fun _ _ _ => rfl⟩⟩
  case round =>
    obtain ⟨k, hk, rfl, rfl, hown, hgr⟩ := hrel
    have hb1 : wr.cell? ⟨p, o, none⟩ = some (.slice (some ⟨g, 0, none⟩) len cap) := hgr.cell hb (by simpa using hpg)
    by_cases hlt : k < 8
    · have hfz : ∀ j, wr.frozen? ⟨g, j, none⟩ = false := hown.frozenAt
      have hcell : ∃ u, wr.cell? ⟨g, at' + (7 - k), none⟩ = some u := by
        refine ⟨_, (hown.cellAt (at' + (7 - k)) (by omega)).trans (List.getElem?_eq_getElem (by simp [putK_length bs at' n k HL (by omega)]; omega))⟩
      obtain ⟨u, hcell⟩ := hcell
      have Hown2 := Lib.hid hown; clear hown
      have Hgr2 := Lib.hid hgr; clear hgr
      go_wp2
      go_roundw
      case rel =>
        have h1 := Hown2.out.stored (at' + (7 - k)) (.int .u8 (IntKind.u8.wrap (n / 256 ^ k)))
        rw [← List.map_set, putK_step bs at' n k HL hlt] at h1
        exact ⟨k + 1, by omega, by go_num, by rw [div_pow], h1.1, grown_trans Hgr2.out h1.2⟩
      case measure => simp [intOf]; omega
    · obtain rfl : k = 8 := by omega
      go_wp2
      rw [putK_eight] at hown
      go_end0
      exact ⟨rfl, hown, hgr⟩
end Go.Proofs.Ytniifefmjdjebaa
namespace Go.Proofs.Ytniifefmjdjebaa
open Go.RowKit
set_option linter.unusedVariables false
set_option linter.unusedSimpArgs false

/-- An object: its kind, its slots. -/
structure Ob where
  kind : Int
  vs : List Int
def I64 (n : Int) : Prop := -9223372036854775808 ≤ n ∧ n ≤ 9223372036854775807
def Ob.ok (x : Ob) : Prop := I64 x.kind ∧ x.vs.length ≤ 65536 ∧ ∀ v ∈ x.vs, I64 v
def Ob.size (x : Ob) : Nat := 16 + 8 * x.vs.length
def enc (x : Ob) : List Int := w8 x.kind ++ w8 x.vs.length ++ x.vs.flatMap w8
def encs (l : List Ob) : List Int := l.flatMap enc
def tot (l : List Ob) : Nat := (l.map Ob.size).sum
/-- The object that begins at an address, those of the list lying from off on. -/
def findOb (off : Nat) : List Ob → Int → Option Ob
  | [], _ => none
  | x :: l, a => if a = off + 8 then some x else findOb (off + x.size) l a
def addrs (off : Nat) : List Ob → List Int
  | [] => []
  | x :: l => (off + 8 : Int) :: addrs (off + x.size) l
theorem tot_nil : tot [] = 0 := rfl
theorem tot_cons (x : Ob) (l : List Ob) : tot (x :: l) = x.size + tot l := by simp [tot]
theorem tot_append (l r : List Ob) : tot (l ++ r) = tot l + tot r := by simp [tot]
theorem flat8_length (vs : List Int) : (vs.flatMap w8).length = 8 * vs.length := by
  induction vs with
  | nil => rfl
  | cons x l ih => simp [w8_length, ih]; omega
theorem enc_length (x : Ob) : (enc x).length = x.size := by
  simp only [enc, List.length_append, w8_length, flat8_length, Ob.size]
theorem encs_length (l : List Ob) : (encs l).length = tot l := by
  induction l with
  | nil => rfl
  | cons x l ih => rw [tot_cons, ← ih, ← enc_length]; simp [encs]
theorem encs_append (l r : List Ob) : encs (l ++ r) = encs l ++ encs r := by simp [encs]
theorem encs_cons (x : Ob) (l : List Ob) : encs (x :: l) = enc x ++ encs l := by simp [encs]
theorem size_pos (x : Ob) : 16 ≤ x.size := by unfold Ob.size; omega
theorem findOb_split : ∀ (l : List Ob) (off : Nat) (a : Int) (x : Ob), findOb off l a = some x → ∃ l1 l2, l = l1 ++ x :: l2 ∧ a = ((off + tot l1 + 8 : Nat) : Int)
  | [], _, _, _, h => by simp [findOb] at h
  | y :: l, off, a, x, h => by
    unfold findOb at h
    split at h
    · rename_i e
      obtain rfl : y = x := by simpa using h
      exact ⟨[], l, rfl, by rw [e, tot_nil]; omega⟩
    · obtain ⟨l1, l2, e1, e2⟩ := findOb_split l _ a x h
      exact ⟨y :: l1, l2, by rw [e1]; rfl, by rw [e2, tot_cons]; omega⟩
theorem findOb_lt : ∀ (l : List Ob) (off : Nat) (a : Int), a < off + 8 → findOb off l a = none
  | [], _, _, _ => rfl
  | y :: l, off, a, h => by
    unfold findOb
    rw [if_neg (by omega)]
    exact findOb_lt l _ a (by have := size_pos y; omega)
theorem findOb_at (l1 : List Ob) (x : Ob) (l2 : List Ob) (off : Nat) : findOb off (l1 ++ x :: l2) ((off + tot l1 + 8 : Nat) : Int) = some x := by
  induction l1 generalizing off with
  | nil => simp [findOb, tot_nil]
  | cons y l ih =>
    have := size_pos y
    simp only [List.cons_append, findOb, tot_cons]
    rw [if_neg (by omega)]
    have := ih (off + y.size)
    rw [show off + y.size + tot l + 8 = off + (y.size + tot l) + 8 from by omega] at this
    exact this
theorem findOb_append (l : List Ob) (y : Ob) (off : Nat) (a : Int) : findOb off (l ++ [y]) a = if a = ((off + tot l + 8 : Nat) : Int) then some y else findOb off l a := by
  induction l generalizing off with
  | nil => simp [findOb, tot_nil]; rfl
  | cons x l ih =>
    have := size_pos x
    simp only [List.cons_append, findOb, tot_cons, ih]
    by_cases h1 : a = off + 8
    · rw [if_pos h1, if_pos h1, if_neg (by omega)]
    · rw [if_neg h1, if_neg h1, show off + x.size + tot l + 8 = off + (x.size + tot l) + 8 from by omega]
theorem addrs_length (l : List Ob) (off : Nat) : (addrs off l).length = l.length := by
  induction l generalizing off with
  | nil => rfl
  | cons x l ih => simp [addrs, ih]
theorem addrs_append (l : List Ob) (y : Ob) (off : Nat) : addrs off (l ++ [y]) = addrs off l ++ [((off + tot l + 8 : Nat) : Int)] := by
  induction l generalizing off with
  | nil => simp [addrs, tot_nil]
  | cons x l ih =>
    simp only [List.cons_append, addrs, tot_cons, ih]
    rw [show off + x.size + tot l + 8 = off + (x.size + tot l) + 8 from by omega]
theorem mem_addrs (l : List Ob) (off : Nat) (a : Int) : a ∈ addrs off l ↔ (findOb off l a).isSome = true := by
  induction l generalizing off with
  | nil => simp [addrs, findOb]
  | cons x l ih =>
    simp only [addrs, List.mem_cons, findOb, ih]
    by_cases h : a = off + 8 <;> simp [h]
/-- The words of an object among the bytes. -/
theorem encs_at (l1 : List Ob) (x : Ob) (l2 : List Ob) : encs (l1 ++ x :: l2) = encs l1 ++ (w8 x.kind ++ (w8 x.vs.length ++ (x.vs.flatMap w8 ++ encs l2))) := by
  rw [encs_append, encs_cons]; simp [enc, List.append_assoc]
theorem encs_kind (l1 : List Ob) (x : Ob) (l2 : List Ob) : ((encs (l1 ++ x :: l2)).drop (tot l1)).take 8 = w8 x.kind := by
  rw [encs_at, ← encs_length, List.drop_left, List.take_append_of_le_length (by simp [w8_length]), List.take_of_length_le (by simp [w8_length])]
theorem encs_slots (l1 : List Ob) (x : Ob) (l2 : List Ob) : ((encs (l1 ++ x :: l2)).drop (tot l1 + 8)).take 8 = w8 x.vs.length := by
  rw [encs_at, ← List.drop_drop, ← encs_length, List.drop_left, List.drop_left' (w8_length _), List.take_append_of_le_length (by simp [w8_length]), List.take_of_length_le (by simp [w8_length])]
theorem flat8_at (vs : List Int) (k : Nat) (h : k < vs.length) (r : List Int) : ((vs.flatMap w8 ++ r).drop (8 * k)).take 8 = w8 vs[k] := by
  induction vs generalizing k with
  | nil => simp at h
  | cons v vs ih =>
    cases k with
    | zero => rw [List.flatMap_cons, List.append_assoc, Nat.mul_zero, List.drop_zero, List.take_append_of_le_length (by simp [w8_length]), List.take_of_length_le (by simp [w8_length])]; rfl
    | succ k =>
      have := ih k (by simpa using h)
      rw [List.flatMap_cons, List.append_assoc, show 8 * (k + 1) = 8 + 8 * k from by omega, ← List.drop_drop, List.drop_left' (w8_length _), this]
      simp
theorem encs_slot (l1 : List Ob) (x : Ob) (l2 : List Ob) (k : Nat) (h : k < x.vs.length) : ((encs (l1 ++ x :: l2)).drop (tot l1 + 16 + 8 * k)).take 8 = w8 x.vs[k] := by
  rw [encs_at, ← encs_length, Nat.add_assoc, ← List.drop_drop, List.drop_left, ← List.append_assoc, ← List.drop_drop, List.drop_left' (by simp [w8_length]), flat8_at x.vs k h]

/-! ### walks -/
theorem i64k : Try.prog.underlying 2 = some (.int .i64) := by kernel_rfl
theorem und87 : Try.prog.underlying 87 = some (.map 2 3) := by kernel_rfl
theorem und90 : Try.prog.underlying 90 = some (.map 2 2) := by kernel_rfl
theorem zero3 (w : World) : (zeroValue 3).run Try.prog w = .ok (.int .i64 0) w := by kernel_rfl
theorem zero2 (w : World) : (zeroValue 2).run Try.prog w = .ok (.int .i64 0) w := by kernel_rfl
/-- 'number' of eight bytes of a row that is owned. -/
theorem number_row (p o : Nat) (a : Int) (vb : Value) (bs : List Int) (n : Int) (w : World)
    (hb : w.cell? ⟨p, o, none⟩ = some vb) (hown : w.ownsRow 0 5 1 vb bs.length (bs.map (Value.int .u8))) (ha : 0 ≤ a) (hn : I64 n)
    (h8 : (bs.drop a.toNat).take 8 = w8 n) :
    Calls Try.prog 68 #[.pointer (some ⟨p, o, none⟩), .int .i64 a] w fun e w' => e = .returned (.int .i64 n) ∧ w' = w := by
  obtain ⟨at', rfl⟩ := Int.eq_ofNat_of_zero_le ha
  rw [Int.toNat_natCast] at h8
  have hlen : at' + 8 ≤ bs.length := by
    have := congrArg List.length h8
    simp [w8_length] at this
    omega
  rcases hown.2 with ⟨_, h0⟩ | ⟨g, cap, cur, rfl, _, hg, hnc, hcm, _⟩
  · omega
  · refine (number_any p o g at' bs.length cap (w8 n) w hb (w8_length n) (w8_range n) ?_ hlen hnc (by simpa [maxLen] using hcm)).mono ?_
    · intro i hi
      have h1 := hown.cellAt (at' + i) (by omega)
      rw [h1, ← h8, List.getD_eq_getElem?_getD, List.getElem?_take_of_lt hi, List.getElem?_drop, List.getElem?_map, List.getElem?_eq_getElem (by omega)]
      rfl
    · rintro e w' ⟨rfl, rfl⟩
      exact ⟨by rw [num_w8 n hn], rfl⟩
/-- What a half says: its bytes, and where its objects begin. -/
structure HalfOf (w : World) (vb : Value) (mo : Option Nat) (l : List Ob) : Prop where
  bytes : w.ownsRow 0 5 1 vb (encs l).length ((encs l).map (Value.int .u8))
  begins : ∃ f, OMap w mo f ∧ ∀ k, (f k).isSome = (findOb 0 l k).isSome
  ok : ∀ x ∈ l, x.ok
  small : tot l ≤ 1048576
set_option maxHeartbeats 400000 in
theorem is_any (p o : Nat) (a : Int) (vb : Value) (mo : Option Nat) (l : List Ob) (w : World) (hc : w.cell? ⟨p, o + 2, none⟩ = some (.map mo)) (hh : HalfOf w vb mo l) :
    Calls Try.prog 66 #[.pointer (some ⟨p, o, none⟩), .int .i64 a] w fun e w' => e = .returned (.bool (findOb 0 l a).isSome) ∧ w' = w := by
  obtain ⟨f, hm, hf⟩ := hh.begins
  have hl := hm.look und87 i64k zero3 a
  rw [hf a] at hl
  clear hm hf hh
  go_enter Try.func66, Try.ntmps66
  go_wp2
  go_ret
  exact ⟨rfl, rfl⟩
theorem HalfOf.word {w : World} {vb : Value} {mo : Option Nat} {l : List Ob} (hh : HalfOf w vb mo l) {x : Ob} {a : Int} (hx : findOb 0 l a = some x) :
    8 ≤ a ∧ a ≤ 1048576 ∧ a + 8 + 8 * x.vs.length ≤ tot l ∧ x.ok ∧ ((encs l).drop (a - 8).toNat).take 8 = w8 x.kind ∧ ((encs l).drop a.toNat).take 8 = w8 x.vs.length ∧
      ∀ k (h : k < x.vs.length), ((encs l).drop (a + 8 + 8 * k).toNat).take 8 = w8 x.vs[k] := by
  obtain ⟨l1, l2, rfl, rfl⟩ := findOb_split _ _ _ _ hx
  have hs := hh.small
  rw [tot_append, tot_cons] at hs
  have hz : x.size = 16 + 8 * x.vs.length := rfl
  refine ⟨by omega, by omega, by rw [tot_append, tot_cons]; omega, hh.ok x (by simp), ?_, ?_, fun k h => ?_⟩
  · rw [show (((0 + tot l1 + 8 : Nat) : Int) - 8).toNat = tot l1 from by omega]; exact encs_kind l1 x l2
  · rw [show (((0 + tot l1 + 8 : Nat) : Int)).toNat = tot l1 + 8 from by omega]; exact encs_slots l1 x l2
  · rw [show (((0 + tot l1 + 8 : Nat) : Int) + 8 + 8 * k).toNat = tot l1 + 16 + 8 * k from by omega]; exact encs_slot l1 x l2 k h
set_option maxHeartbeats 400000 in
theorem kind_any (p o : Nat) (a : Int) (vb : Value) (mo : Option Nat) (l : List Ob) (x : Ob) (w : World) (hc : w.cell? ⟨p, o, none⟩ = some vb) (hh : HalfOf w vb mo l) (hx : findOb 0 l a = some x) :
    Calls Try.prog 69 #[.pointer (some ⟨p, o, none⟩), .int .i64 a] w fun e w' => e = .returned (.int .i64 x.kind) ∧ w' = w := by
  obtain ⟨a1, a2, a3, hok, hk, _, _⟩ := hh.word hx
  have H := Lib.hid (number_row p o (a - 8) vb _ x.kind w hc hh.bytes (by omega) hok.1 hk)
  have hk1 := hok.1.1
  have hk2 := hok.1.2
  clear hh hx hc hk hok
  go_enter Try.func69, Try.ntmps69
  go_wp2_with fail
  refine H.out.mono ?_
  rintro e w' ⟨rfl, rfl⟩
  go_wp2
  go_ret
  exact ⟨rfl, rfl⟩
set_option maxHeartbeats 400000 in
theorem slots_any (p o : Nat) (a : Int) (vb : Value) (mo : Option Nat) (l : List Ob) (x : Ob) (w : World) (hc : w.cell? ⟨p, o, none⟩ = some vb) (hh : HalfOf w vb mo l) (hx : findOb 0 l a = some x) :
    Calls Try.prog 67 #[.pointer (some ⟨p, o, none⟩), .int .i64 a] w fun e w' => e = .returned (.int .i64 x.vs.length) ∧ w' = w := by
  obtain ⟨a1, a2, a3, hok, _, hk, _⟩ := hh.word hx
  have hk2 := hok.2.1
  have H := Lib.hid (number_row p o a vb _ x.vs.length w hc hh.bytes (by omega) ⟨by omega, by omega⟩ hk)
  clear hh hx hc hk hok
  go_enter Try.func67, Try.ntmps67
  go_wp2_with fail
  refine H.out.mono ?_
  rintro e w' ⟨rfl, rfl⟩
  go_wp2
  go_ret
  exact ⟨rfl, rfl⟩
/-- 'place'. -/
theorem place_any (a s : Int) (w : World) (ha : 0 ≤ a ∧ a ≤ 1048576) (hs : 0 ≤ s ∧ s ≤ 1048576) :
    Calls Try.prog 65 #[.int .i64 a, .int .i64 s] w fun e w' => e = .returned (.int .i64 (a + 8 + 8 * s)) ∧ w' = w := by
  obtain ⟨h1, h2⟩ := ha
  obtain ⟨h3, h4⟩ := hs
  go_enter Try.func65, Try.ntmps65
  go_wp2
  go_ret
  exact ⟨rfl, rfl⟩
end Go.Proofs.Ytniifefmjdjebaa
namespace Go.Proofs.Ytniifefmjdjebaa
open Go.RowKit
set_option linter.unusedVariables false
set_option linter.unusedSimpArgs false

theorem und33 : Try.prog.underlying 33 = some (.slice 5) := by kernel_rfl
theorem und38 : Try.prog.underlying 38 = some (.slice 2) := by kernel_rfl
theorem und3 : Try.prog.underlying 3 = some (.int .i64) := by kernel_rfl
theorem info5 : (Try.prog.info? 5).map (fun i => (i.zero, i.size, i.bytes)) = some (some (.int .u8 0), 1, 1) := by kernel_rfl
theorem info2 : (Try.prog.info? 2).map (fun i => (i.zero, i.size, i.bytes)) = some (some (.int .i64 0), 1, 8) := by kernel_rfl
/-- An owned row of at least one cell has an address. -/
theorem row_addr {w : World} {base e n : Nat} {v : Value} {xs : List Value} (h : w.ownsRow base e 1 v n xs) (hn : 0 < n) :
    ∃ g cap cur, v = .slice (some ⟨g, 0, none⟩) n cap ∧ w.heap[g]? = some (.cells cur e (0, 0)) ∧ n ≤ cap ∧ cap ≤ maxLen := by
  rcases h.2 with ⟨_, h0⟩ | ⟨g, cap, cur, h1, _, h2, h3, h4, _⟩
  · omega
  · exact ⟨g, cap, cur, h1, h2, h3, h4⟩
/-- An owned row's value is a slice of that length. -/
theorem row_form {w : World} {base e n : Nat} {v : Value} {xs : List Value} (h : w.ownsRow base e 1 v n xs) : ∃ a c, v = .slice a n c := by
  rcases h.2 with ⟨h1, h0⟩ | ⟨g, cap, cur, h1, _⟩
  · exact ⟨none, 0, by rw [h1, h0]⟩
  · exact ⟨_, _, h1⟩
theorem row_ne {w : World} {base e size n : Nat} {v : Value} {xs : List Value} (h : w.ownsRow base e size v n xs) {p : Nat} {cs : Array Value} {e' : TypeId} {fr : Nat × Nat} (hp : w.heap[p]? = some (.cells cs e' fr)) (hne : e' ≠ e) : some p ≠ v.ownBlock := by
  rcases h.2 with ⟨h0, _⟩ | ⟨g, cap, cur, h1, _, h2, _⟩
  · subst h0; simp [Value.ownBlock]
  · subst h1
    simp only [Value.ownBlock, ne_eq, Option.some.injEq]
    rintro rfl
    rw [hp] at h2
    simp at h2
    exact hne h2.2.1
/-- Rows of different types of elements lie in different blocks. -/
theorem rows_apart {w : World} {base e size n base' e' size' n' : Nat} {v v' : Value} {xs xs' : List Value} (h : w.ownsRow base e size v n xs) (h' : w.ownsRow base' e' size' v' n' xs') (hne : e ≠ e') {k : Nat} (hk : v.ownBlock = some k) (hk' : v'.ownBlock = some k) : False := by
  rcases h.2 with ⟨h0, _⟩ | ⟨g, cap, cur, h1, _, h2, _⟩
  · subst h0; simp [Value.ownBlock] at hk
  · subst h1
    simp [Value.ownBlock] at hk
    subst hk
    exact row_ne h' h2 hne hk'.symm
theorem row_ne_map {w : World} {base e size n : Nat} {v : Value} {xs : List Value} (h : w.ownsRow base e size v n xs) {p : Nat} {es : Array MapEntry} {c : Nat} (hp : w.heap[p]? = some (.map es c)) : some p ≠ v.ownBlock := by
  rcases h.2 with ⟨h0, _⟩ | ⟨g, cap, cur, h1, _, h2, _⟩
  · subst h0; simp [Value.ownBlock]
  · subst h1
    simp only [Value.ownBlock, ne_eq, Option.some.injEq]
    rintro rfl
    rw [hp] at h2
    simp at h2
theorem row_ne_imap {w : World} {base e size n : Nat} {v : Value} {xs : List Value} (h : w.ownsRow base e size v n xs) {p : Nat} {f : Int → Option Int} (hp : IMap w p f) : some p ≠ v.ownBlock := by
  obtain ⟨es, c, hb, _⟩ := hp
  exact row_ne_map h hb
theorem blk_cell {w : World} {p : Nat} {cs : Array Value} {t : TypeId} {fr : Nat × Nat} (h : w.heap[p]? = some (.cells cs t fr)) (j : Nat) : w.cell? ⟨p, j, none⟩ = cs[j]? := by
  simp [World.cell?, h]
theorem blk_free {w : World} {p : Nat} {cs : Array Value} {t : TypeId} (h : w.heap[p]? = some (.cells cs t (0, 0))) (j : Nat) : w.frozen? ⟨p, j, none⟩ = false := by
  simp [World.frozen?, h]
theorem blk_set {w : World} {p : Nat} {cs : Array Value} {t : TypeId} (h : w.heap[p]? = some (.cells cs t (0, 0))) (j : Nat) (v : Value) : (w.setCell ⟨p, j, none⟩ v).heap[p]? = some (.cells (cs.setIfInBounds j v) t (0, 0)) :=
  heap_setCell_same w p j cs t v h
theorem len_le_tot (l : List Ob) : l.length ≤ tot l := by
  induction l with
  | nil => simp
  | cons x l ih => rw [tot_cons, List.length_cons]; have := size_pos x; omega
theorem w8_zero : w8 0 = List.replicate 8 0 := by decide
theorem flat8_zero (s : Nat) : (List.replicate s (0 : Int)).flatMap w8 = List.replicate (8 * s) 0 := by
  induction s with
  | zero => rfl
  | succ s ih => rw [List.replicate_succ, List.flatMap_cons, ih, w8_zero, show 8 * (s + 1) = 8 + 8 * s from by omega, List.replicate_append_replicate]
/-- The bytes of an object that is laid down at the end. -/
theorem put8_new (l : List Ob) (kind : Int) (s : Nat) : put8 (put8 (encs l ++ List.replicate (16 + 8 * s) 0) (encs l).length kind) ((encs l).length + 8) s = encs (l ++ [⟨kind, List.replicate s 0⟩]) := by
  have e1 : put8 (encs l ++ List.replicate (16 + 8 * s) 0) (encs l).length kind = encs l ++ w8 kind ++ List.replicate (8 + 8 * s) 0 := by
    unfold put8
    rw [List.take_left, List.drop_append, List.drop_of_length_le (by omega), List.drop_replicate, show 16 + 8 * s - ((encs l).length + 8 - (encs l).length) = 8 + 8 * s from by omega]
    simp
  rw [e1]
  unfold put8
  rw [List.take_left' (by simp [w8_length]), List.drop_append, List.drop_of_length_le (by simp [w8_length] <;> omega), List.drop_replicate, show 8 + 8 * s - ((encs l).length + 8 + 8 - (encs l ++ w8 kind).length) = 8 * s from by simp [w8_length] <;> omega, encs_append, encs_cons]
  simp [enc, encs, flat8_zero, List.append_assoc]
/-- A half behind a laying, said of its parts. -/
theorem HalfOf.laid {w w' : World} {vb vb' : Value} {m : Nat} {l : List Ob} {f : Int → Option Int} {kind : Int} {s : Nat} (hh : HalfOf w vb (some m) l) (hk : I64 kind) (hs : s ≤ 65536) (ht : tot l + 16 + 8 * s ≤ 1048576)
    (hf : ∀ k, (f k).isSome = (findOb 0 l k).isSome)
    (hb : w'.ownsRow 0 5 1 vb' ((encs l).length + (16 + 8 * s)) ((encs (l ++ [⟨kind, List.replicate s 0⟩])).map (Value.int .u8))) (hm : IMap w' m (fun k' => if k' = (tot l : Int) + 8 then some l.length else f k')) :
    HalfOf w' vb' (some m) (l ++ [⟨kind, List.replicate s 0⟩]) := by
  have he : (encs (l ++ [⟨kind, List.replicate s 0⟩])).length = (encs l).length + (16 + 8 * s) := by
    rw [encs_length, encs_length, tot_append, tot_cons, tot_nil]; simp [Ob.size]
  refine ⟨by rw [he]; exact hb, ⟨_, hm, fun k => ?_⟩, ?_, ?_⟩
  · rw [findOb_append, show ((0 + tot l + 8 : Nat) : Int) = (tot l : Int) + 8 from by omega]
    split
    · rfl
    · exact hf k
  · intro x hx
    rcases List.mem_append.1 hx with hx | hx
    · exact hh.ok x hx
    · simp at hx
      subst hx
      exact ⟨hk, by simpa using hs, fun v hv => by rw [List.eq_of_mem_replicate hv]; exact ⟨by omega, by omega⟩⟩
  · rw [tot_append, tot_cons, tot_nil]; simp [Ob.size]; omega
set_option maxRecDepth 100000 in
set_option maxHeartbeats 400000 in
theorem lay_any (p m : Nat) (kind : Int) (s : Nat) (vb vl c3 c4 c5 c6 c7 : Value) (l : List Ob) (w : World)
    (hp : w.heap[p]? = some (.cells #[vb, vl, .map (some m), c3, c4, c5, c6, c7] 92 (0, 0)))
    (hh : HalfOf w vb (some m) l) (hl : w.ownsRow 0 2 1 vl l.length ((addrs 0 l).map (Value.int .i64)))
    (hk : I64 kind) (hs : s ≤ 65536) (ht : tot l + 16 + 8 * s ≤ 1048576) :
    Calls Try.prog 60 #[.pointer (some ⟨p, 0, none⟩), .int .i64 kind, .int .i64 s] w fun e w' => e = .returned (.int .i64 (tot l + 8)) ∧
      ∃ vb' vl', w'.heap[p]? = some (.cells #[vb', vl', .map (some m), c3, c4, c5, c6, c7] 92 (0, 0)) ∧ HalfOf w' vb' (some m) (l ++ [⟨kind, List.replicate s 0⟩]) ∧
        w'.ownsRow 0 2 1 vl' (l.length + 1) ((addrs 0 (l ++ [⟨kind, List.replicate s 0⟩])).map (Value.int .i64)) ∧
        Fr (fun k => k = p ∨ k = m ∨ vb.ownBlock = some k ∨ vl.ownBlock = some k) w w' ∧
        (∀ g, vb'.ownBlock = some g → vb.ownBlock = some g ∨ w.heap.size ≤ g) ∧ (∀ g, vl'.ownBlock = some g → vl.ownBlock = some g ∨ w.heap.size ≤ g) := by
  obtain ⟨i5, hi5, hz5, hs5, hb5⟩ := info_parts info5
  have htot := encs_length l
  obtain ⟨v1, w1, hr1, hown1, hgr1, hold1⟩ := run_append_zeros (P := Try.prog) w 0 33 3 33 5 i5 (.int .u8 0) .i64 .i64 1 und33 und3 hi5 hz5 hs5 hb5 rfl rfl vb (encs l).length _ hh.bytes (16 + 8 * s) (by unfold maxLen; omega) (by omega) (Nat.zero_le _)
  obtain ⟨g, cap, cur, rfl, hg, hgc, hcm⟩ := row_addr hown1 (by omega)
  rw [show (((16 + 8 * s : Nat)) : Int) = 16 + 8 * (s : Int) from by omega] at hr1
  have hp1 := hgr1.block p (Array.getElem?_eq_some_iff.1 hp).1 (row_ne hh.bytes hp (by decide))
  rw [hp] at hp1
  have c0 := blk_cell hp 0
  have f1 := blk_free hp1 0
  have c10 := blk_cell hp1 0
  obtain ⟨a0, cp0, rfl⟩ := row_form hh.bytes
  simp at c0 c10
  have hpg : p ≠ g := by rintro rfl; rw [hp1] at hg; simp at hg
  have hp2 := blk_set hp1 0 (.slice (some ⟨g, 0, none⟩) ((encs l).length + (16 + 8 * s)) cap)
  have hown2 := (Fr.setCell (S := fun k => k = p) w1 ⟨p, 0, none⟩ (.slice (some ⟨g, 0, none⟩) ((encs l).length + (16 + 8 * s)) cap) rfl).row hown1 (by intro k hk hkp; simp [Value.ownBlock] at hk; omega)
  rw [show (List.map (Value.int IntKind.u8) (encs l) ++ List.replicate (16 + 8 * s) (Value.int IntKind.u8 0)) = (encs l ++ List.replicate (16 + 8 * s) 0).map (Value.int .u8) from by simp] at hown2
  have c20 := blk_cell hp2 0
  simp at c20
  have H3 := Lib.hid (set_any p 0 g (encs l).length ((encs l).length + (16 + 8 * s)) cap kind _ _ c20 hpg hown2 (by omega) (by omega))
  have hsm : (encs l).length + (16 + 8 * s) ≤ 1048576 := by omega
  have Hg := Lib.hid hg; clear hg
  have Hp := Lib.hid hp; clear hp
  have Hp1 := Lib.hid hp1; clear hp1
  have Hp2 := Lib.hid hp2; clear hp2
  have Htot := Lib.hid htot; clear htot
  have Hr1 := Lib.hid hr1; clear hr1
  clear hi5 hz5 hs5 hb5
  go_enter Try.func60, Try.ntmps60
  go_wp2_with (first | (at_builtin; refine Lib.wpList_append_run _ rfl _ _ 33 3 rfl _ _ rfl rfl _ _ Hr1.out ?_))
  refine H3.out.mono ?_
  rintro e w3 ⟨rfl, hown3, hgr3⟩
  have hp3 := (hgr3.block p (Array.getElem?_eq_some_iff.1 Hp2.out).1 (by simpa using hpg)).trans Hp2.out
  have c30 := blk_cell hp3 0
  simp at c30
  have H4 := Lib.hid (set_any p 0 g ((encs l).length + 8) ((encs l).length + (16 + 8 * s)) cap s _ _ c30 hpg hown3 (by omega) (by omega))
  have Hp3 := Lib.hid hp3; clear hp3
  go_wp2_with fail
  rw [show ((encs l).length : Int) + 8 = (((encs l).length + 8 : Nat) : Int) from by omega]
  refine H4.out.mono ?_
  rintro e w4 ⟨rfl, hown4, hgr4⟩
  have hp4 := (hgr4.block p (Array.getElem?_eq_some_iff.1 Hp3.out).1 (by simpa using hpg)).trans Hp3.out
  simp only [List.setIfInBounds_toArray, List.set_cons_zero] at hp4
  have hfr4 : Fr (fun k => k = p ∨ (Value.slice a0 (encs l).length cp0).ownBlock = some k) w w4 := by
    have hgS : ∀ i, i < w.heap.size → i = g → (i = p ∨ (Value.slice a0 (encs l).length cp0).ownBlock = some i) := by
      rintro i hi rfl
      rcases hold1 i rfl with h | h
      · exact .inr h
      · omega
    refine (((Fr.of_grown hgr1 (S := fun k => k = p ∨ (Value.slice a0 (encs l).length cp0).ownBlock = some k) (fun k hk => .inr hk)).trans (Fr.setCell (S := fun k => k = p) w1 ⟨p, 0, none⟩ _ rfl) (fun _ h => h) (fun i _ h => .inl h)).trans (Fr.of_grown hgr3 (S := fun k => k = g) (fun k hk => by simpa using hk.symm)) (fun _ h => h) hgS).trans (Fr.of_grown hgr4 (S := fun k => k = g) (fun k hk => by simpa using hk.symm)) (fun _ h => h) hgS
  obtain ⟨f, hm, hf⟩ := hh.begins
  have hmp : m ≠ p := by
    obtain ⟨es, cl, hb, _⟩ := (show IMap w m f from hm)
    rintro rfl
    rw [Hp.out] at hb
    simp at hb
  have hm4 : IMap w4 m f := hfr4.imap hm (by
    rintro (h | h)
    · exact hmp h
    · exact row_ne_imap hh.bytes hm h.symm)
  obtain ⟨a1, cp1, rfl⟩ := row_form hl
  have hl4 : w4.ownsRow 0 2 1 (.slice a1 l.length cp1) l.length ((addrs 0 l).map (Value.int .i64)) := hfr4.row hl (by
    rintro k hk (h | h)
    · exact row_ne hl Hp.out (by decide) (h ▸ hk.symm)
    · exact rows_apart hh.bytes hl (by decide) h hk)
  obtain ⟨om, hput, him⟩ := hm4.put und87 i64k (tot l + 8) l.length
  have hput1 := hput w4.drew rfl
  have c41 := blk_cell hp4 1
  have c42 := blk_cell hp4 2
  have f41 := blk_free hp4 1
  simp only [List.getElem?_toArray, List.getElem?_cons_succ, List.getElem?_cons_zero] at c41 c42
  have Hp4 := Lib.hid hp4; clear hp4
  rw [← Htot.out] at hput1
  have Hput := Lib.hid hput; clear hput
  clear hm hown3 hown2 hown1 c30 c20 c10 c0
  go_wp2_with fail
  have hl6 : (ChangeMaps.setBlock w4.drew m om).ownsRow 0 2 1 (.slice a1 l.length cp1) l.length ((addrs 0 l).map (Value.int .i64)) :=
    (Fr.setBlock (S := fun k => k = m) w4.drew m om rfl).row (w := w4.drew) hl4 (by rintro k hk rfl; exact row_ne_imap hl4 hm4 hk.symm)
  obtain ⟨i2, hi2, hz2, hs2, hb2⟩ := info_parts info2
  have hln := len_le_tot l
  have hfr6 : Fr (fun k => k = m) w4 (ChangeMaps.setBlock w4.drew m om) := (Fr.drew _ w4).trans (Fr.setBlock (S := fun k => k = m) w4.drew m om rfl) (fun _ h => h) (fun _ _ h => h)
  have him6 := him w4.drew rfl
  have hp6 := hfr6.heap Hp4.out (Ne.symm hmp)
  obtain ⟨W6, hW6⟩ : ∃ W, W = ChangeMaps.setBlock w4.drew m om := ⟨_, rfl⟩
  rw [← hW6] at hl6 hfr6 him6 hp6 hput1
  clear hW6 him
  have c61 := blk_cell hp6 1
  have f61 := blk_free hp6 1
  simp only [List.getElem?_toArray, List.getElem?_cons_succ, List.getElem?_cons_zero] at c61
  have Hl6 := Lib.hid hl6; clear hl6
  have Hp6 := Lib.hid hp6; clear hp6
  go_region
  go_wp2_with (first | (at_builtin; refine wpList_append_own_at _ rfl _ _ 38 rfl 0 2 i2 (.int .i64 0) 1 8 und38 hi2 hz2 hs2 hb2 rfl (by decide) _ _ _ rfl (Hl6.out.alloc _) ⟨W6.heap.size, 0, none⟩ 1 1 [.int .i64 ((encs l).length + 8)] rfl rfl ?c1 ?c2 ?c3 ?c4 ?c5 ?_))
  case c1 => exact cell_one_new _ _ _
  case c2 => intro u hu; simp at hu; subst hu; rfl
  case c3 => unfold maxLen; omega
  case c4 => omega
  case c5 => exact Nat.zero_le _
  intro v8 w8 hown8 hgr8 _ hloc8
  have hp8 : w8.heap[p]? = _ := (hgr8.block p (by have := (Array.getElem?_eq_some_iff.1 Hp6.out).1; simp; omega) (row_ne hl Hp.out (by decide))).trans ((Fr.alloc (fun _ => False) W6 _).heap Hp6.out id)
  have c81 := blk_cell hp8 1
  have f81 := blk_free hp8 1
  simp only [List.getElem?_toArray, List.getElem?_cons_succ, List.getElem?_cons_zero] at c81
  have hp9 := blk_set hp8 1 v8
  have hown9 := (Fr.setCell (S := fun k => k = p) w8 ⟨p, 1, none⟩ v8 rfl).row hown8 (by rintro k hk rfl; exact row_ne hown8 hp8 (by decide) hk.symm)
  have hfr9 : Fr (fun k => k = p ∨ (Value.slice a1 l.length cp1).ownBlock = some k) W6 (w8.setCell ⟨p, 1, none⟩ v8) :=
    ((Fr.alloc (fun _ => False) W6 _).trans (Fr.of_grown hgr8 (S := fun k => (Value.slice a1 l.length cp1).ownBlock = some k) (fun k hk => hk)) (fun _ h => h.elim) (fun _ _ h => h)).trans (Fr.setCell (S := fun k => k = p) w8 ⟨p, 1, none⟩ v8 rfl) (fun _ h => .inr h) (fun _ _ h => .inl h)
  have Hown9 := Lib.hid hown9; clear hown9
  have Hp9 := Lib.hid hp9; clear hp9
  have Hp8 := Lib.hid hp8; clear hp8
  obtain ⟨g8, cap8, cur8, hv8, _, _, _⟩ := row_addr hown8 (by omega)
  subst hv8
  clear hown8 hgr8
  go_wp2
  go_ret
  have hgm : m ≠ g := fun e => row_ne_imap hown4 hm4 (by rw [e]; rfl)
  have hn6 : ∀ k, (Value.slice (some ⟨g, 0, none⟩) ((encs l).length + (16 + 8 * s)) cap).ownBlock = some k → k = g := fun k hk => by simpa [Value.ownBlock] using hk.symm
  have hown6 := hfr6.row hown4 (fun k hk e => hgm (e.symm.trans (hn6 k hk)))
  have hownF := hfr9.row hown6 (by
    rintro k hk (e | e)
    · exact hpg (e.symm.trans (hn6 k hk))
    · exact rows_apart hown6 Hl6.out (by decide) hk e)
  have himF := hfr9.imap him6 (by
    rintro (e | e)
    · exact hmp e
    · exact row_ne_imap Hl6.out him6 e.symm)
  rw [put8_new] at hownF
  refine ⟨by rw [← Htot.out]; rfl, _, _, by simpa using Hp9.out, HalfOf.laid hh hk hs ht hf hownF himF, ?_, ?_, hold1, ?_⟩
  · rw [addrs_append, show ((0 + tot l + 8 : Nat) : Int) = (tot l : Int) + 8 from by omega, List.map_append, ← Htot.out]
    exact Hown9.out
  · exact (hfr4.trans hfr6 (fun _ h => by rcases h with h | h; exact .inl h; exact .inr (.inr (.inl h))) (fun _ _ h => .inr (.inl h))).trans hfr9 (fun _ h => h) (fun _ _ h => by rcases h with h | h; exact .inl h; exact .inr (.inr (.inr h)))
  · intro k hk'
    rcases hloc8 with h | h
    · exact .inl (h ▸ hk')
    · right
      rw [h] at hk'
      have h4 := hfr4.size
      have h6 := hfr6.size
      simp at hk'
      omega
end Go.Proofs.Ytniifefmjdjebaa
namespace Go.Proofs.Ytniifefmjdjebaa
open Go.RowKit
set_option linter.unusedVariables false
set_option linter.unusedSimpArgs false

/-- What an arena holds. -/
structure AS where
  used : List Ob
  ahead : List Ob
  moved : Int → Option Int
  semi : Nat
/-- Block p of w is an arena that holds s; S: the blocks that it lies in. -/
def IsArena (w : World) (p : Nat) (S : Nat → Prop) (s : AS) : Prop :=
  ∃ vb vl m vb' vl' mo' mv, w.heap[p]? = some (.cells #[vb, vl, .map (some m), vb', vl', .map mo', .map (some mv), .int .i64 s.semi] 92 (0, 0)) ∧
    HalfOf w vb (some m) s.used ∧ w.ownsRow 0 2 1 vl s.used.length ((addrs 0 s.used).map (Value.int .i64)) ∧ HalfOf w vb' mo' s.ahead ∧ IMap w mv s.moved ∧
    (∀ k, vb.ownBlock = some k → vb'.ownBlock ≠ some k) ∧ m ≠ mv ∧ some m ≠ mo' ∧ some mv ≠ mo' ∧ tot s.used ≤ s.semi ∧ 256 ≤ s.semi ∧ s.semi ≤ 1048576 ∧
    ∀ k, S k ↔ (k = p ∨ vb.ownBlock = some k ∨ vl.ownBlock = some k ∨ k = m ∨ vb'.ownBlock = some k ∨ mo' = some k ∨ k = mv)
theorem HalfOf.keep {T : Nat → Prop} {w w' : World} {vb : Value} {mo : Option Nat} {l : List Ob} (h : HalfOf w vb mo l) (hf : Fr T w w') (hb : ∀ k, vb.ownBlock = some k → ¬ T k) (hm : ∀ k, mo = some k → ¬ T k) : HalfOf w' vb mo l := by
  obtain ⟨f, hf1, hf2⟩ := h.begins
  exact ⟨hf.row h.bytes hb, ⟨f, hf.omap hf1 hm, hf2⟩, h.ok, h.small⟩
theorem IsArena.keep {T : Nat → Prop} {w w' : World} {p : Nat} {S : Nat → Prop} {s : AS} (h : IsArena w p S s) (hf : Fr T w w') (hd : ∀ k, S k → ¬ T k) : IsArena w' p S s := by
  obtain ⟨vb, vl, m, vb', vl', mo', mv, hp, h1, h2, h3, h4, h5, h6, h7, h8, h9, h10, h11, hS⟩ := h
  exact ⟨vb, vl, m, vb', vl', mo', mv, hf.heap hp (hd _ ((hS _).2 (.inl rfl))), h1.keep hf (fun k hk => hd k ((hS k).2 (.inr (.inl hk)))) (fun k hk => hd k ((hS k).2 (.inr (.inr (.inr (.inl (by simpa using hk.symm))))))),
    hf.row h2 (fun k hk => hd k ((hS k).2 (.inr (.inr (.inl hk))))), h3.keep hf (fun k hk => hd k ((hS k).2 (.inr (.inr (.inr (.inr (.inl hk))))))) (fun k hk => hd k ((hS k).2 (.inr (.inr (.inr (.inr (.inr (.inl hk)))))))),
    hf.imap h4 (hd _ ((hS _).2 (.inr (.inr (.inr (.inr (.inr (.inr rfl)))))))), h5, h6, h7, h8, h9, h10, h11, hS⟩
theorem row_lt {w : World} {base e size n : Nat} {v : Value} {xs : List Value} (h : w.ownsRow base e size v n xs) {k : Nat} (hk : v.ownBlock = some k) : k < w.heap.size := (h.lt k hk).2
theorem IsArena.lt {w : World} {p : Nat} {S : Nat → Prop} {s : AS} (h : IsArena w p S s) {k : Nat} (hk : S k) : k < w.heap.size := by
  obtain ⟨vb, vl, m, vb', vl', mo', mv, hp, h1, h2, h3, h4, h5, h6, h7, h8, h9, h10, h11, hS⟩ := h
  rcases (hS k).1 hk with rfl | hk | hk | rfl | hk | hk | rfl
  · exact (Array.getElem?_eq_some_iff.1 hp).1
  · exact row_lt h1.bytes hk
  · exact row_lt h2 hk
  · obtain ⟨f, hf, _⟩ := h1.begins; exact IMap.lt hf
  · exact row_lt h3.bytes hk
  · subst hk; obtain ⟨f, hf, _⟩ := h3.begins; exact IMap.lt hf
  · exact h4.lt
theorem IsArena.self {w : World} {p : Nat} {S : Nat → Prop} {s : AS} (h : IsArena w p S s) : S p := by
  obtain ⟨vb, vl, m, vb', vl', mo', mv, hp, h1, h2, h3, h4, h5, h6, h7, h8, h9, h10, h11, hS⟩ := h
  exact (hS p).2 (.inl rfl)
/-- Is there room for so many slots? -/
def roomB (s : AS) (n : Int) : Bool := decide (0 ≤ n ∧ n ≤ 65536 ∧ 16 + 8 * n ≤ s.semi - tot s.used)
theorem roomB_true {s : AS} {n : Int} (h : 0 ≤ n ∧ n ≤ 65536 ∧ 16 + 8 * n ≤ s.semi - tot s.used) : roomB s n = true := decide_eq_true h
theorem roomB_false {s : AS} {n : Int} (h : ¬ (0 ≤ n ∧ n ≤ 65536 ∧ 16 + 8 * n ≤ s.semi - tot s.used)) : roomB s n = false := decide_eq_false h
set_option maxRecDepth 100000 in
set_option maxHeartbeats 400000 in
theorem room_any (p : Nat) (n : Int) (S : Nat → Prop) (s : AS) (w : World) (h : IsArena w p S s) :
    Calls Try.prog 22 #[.pointer (some ⟨p, 0, none⟩), .int .i64 n] w fun e w' => e = .returned (.bool (roomB s n)) ∧ ∃ k, w' = w.drewN k := by
  obtain ⟨vb, vl, m, vb', vl', mo', mv, hp, h1, h2, h3, h4, h5, h6, h7, h8, h9, h10, h11, hS⟩ := h
  obtain ⟨a, c, rfl⟩ := row_form h1.bytes
  have hlen := encs_length s.used
  have c0 := blk_cell hp 0
  have c7 := blk_cell hp 7
  simp only [List.getElem?_toArray, List.getElem?_cons_succ, List.getElem?_cons_zero, hlen] at c0 c7
  clear hp h1 h2 h3 h4 h5 h6 h7 h8 hS hlen
  have hs1 : tot s.used ≤ 1048576 := by omega
  have hs2 := h10
  by_cases n0 : 0 ≤ n
  · by_cases n1 : n ≤ 65536
    · by_cases n2 : 16 + 8 * n ≤ (s.semi : Int) - tot s.used
      · have Hr := Lib.hid (roomB_true ⟨n0, n1, n2⟩)
        go_enter Try.func22, Try.ntmps22
        go_wp2
        go_quiet (fail)
        go_wp2
        go_ret
        exact ⟨by rw [Hr.out]; rfl, _, rfl⟩
      · have Hr := Lib.hid (roomB_false (s := s) (n := n) (fun h => n2 h.2.2))
        have hb : decide (16 + 8 * n ≤ (s.semi : Int) - tot s.used) = false := by simpa using n2
        go_enter Try.func22, Try.ntmps22
        go_wp2
        go_quiet (fail)
        go_wp2
        go_ret
        exact ⟨by rw [Hr.out]; rfl, _, rfl⟩
    · have Hr := Lib.hid (roomB_false (s := s) (n := n) (fun h => n1 h.2.1))
      have hb : decide (n ≤ 65536) = false := by simpa using n1
      go_enter Try.func22, Try.ntmps22
      go_wp2
      go_quiet (fail)
      go_wp2
      go_ret
      exact ⟨by rw [Hr.out]; rfl, _, rfl⟩
  · have Hr := Lib.hid (roomB_false (s := s) (n := n) (fun h => n0 h.1))
    have hb : decide (0 ≤ n) = false := by simpa using n0
    go_enter Try.func22, Try.ntmps22
    go_wp2
    go_quiet (fail)
    go_wp2
    go_ret
    exact ⟨by rw [Hr.out]; rfl, _, rfl⟩
/-- The used half of an arena, and its cells. -/
theorem IsArena.used {w : World} {p : Nat} {S : Nat → Prop} {s : AS} (h : IsArena w p S s) : ∃ vb m, w.cell? ⟨p, 0, none⟩ = some vb ∧ w.cell? ⟨p, 0 + 2, none⟩ = some (.map (some m)) ∧ HalfOf w vb (some m) s.used := by
  obtain ⟨vb, vl, m, vb', vl', mo', mv, hp, h1, _⟩ := h
  exact ⟨vb, m, blk_cell hp 0, blk_cell hp 2, h1⟩
def errI (o : Option Ob) : Int := match o with | none => 57 | some _ => 0
def kindOf (o : Option Ob) : Int := match o with | none => 0 | some x => x.kind
def slotsOf (o : Option Ob) : Int := match o with | none => 0 | some x => x.vs.length
set_option maxHeartbeats 400000 in
theorem Kind_any (p : Nat) (a : Int) (S : Nat → Prop) (s : AS) (w : World) (h : IsArena w p S s) :
    Calls Try.prog 34 #[.pointer (some ⟨p, 0, none⟩), .int .i64 a] w fun e w' => e = .returned (.tuple #[.int .i64 (kindOf (findOb 0 s.used a)), .int .i64 (errI (findOb 0 s.used a))]) ∧ w' = w := by
  obtain ⟨vb, m, c0, c2, hh⟩ := h.used
  have H := Lib.hid (is_any p 0 a vb (some m) s.used w c2 hh)
  cases hx : findOb 0 s.used a with
  | none =>
    rw [hx] at H
    clear h c2 hh hx c0
    go_enter Try.func34, Try.ntmps34
    go_wp2_with fail
    refine H.out.mono ?_
    rintro e w' ⟨rfl, rfl⟩
    go_wp2
    go_ret2
    exact ⟨rfl, rfl⟩
  | some x =>
    rw [hx] at H
    have H2 := Lib.hid (kind_any p 0 a vb (some m) s.used x w c0 hh hx)
    clear h c2 hh hx c0
    go_enter Try.func34, Try.ntmps34
    go_wp2_with fail
    refine H.out.mono ?_
    rintro e w' ⟨rfl, rfl⟩
    go_wp2_with fail
    refine H2.out.mono ?_
    rintro e w' ⟨rfl, rfl⟩
    go_wp2
    go_ret2
    exact ⟨rfl, rfl⟩
set_option maxHeartbeats 400000 in
theorem Slots_any (p : Nat) (a : Int) (S : Nat → Prop) (s : AS) (w : World) (h : IsArena w p S s) :
    Calls Try.prog 30 #[.pointer (some ⟨p, 0, none⟩), .int .i64 a] w fun e w' => e = .returned (.tuple #[.int .i64 (slotsOf (findOb 0 s.used a)), .int .i64 (errI (findOb 0 s.used a))]) ∧ w' = w := by
  obtain ⟨vb, m, c0, c2, hh⟩ := h.used
  have H := Lib.hid (is_any p 0 a vb (some m) s.used w c2 hh)
  cases hx : findOb 0 s.used a with
  | none =>
    rw [hx] at H
    clear h c2 hh hx c0
    go_enter Try.func30, Try.ntmps30
    go_wp2_with fail
    refine H.out.mono ?_
    rintro e w' ⟨rfl, rfl⟩
    go_wp2
    go_ret2
    exact ⟨rfl, rfl⟩
  | some x =>
    rw [hx] at H
    have H2 := Lib.hid (slots_any p 0 a vb (some m) s.used x w c0 hh hx)
    clear h c2 hh hx c0
    go_enter Try.func30, Try.ntmps30
    go_wp2_with fail
    refine H.out.mono ?_
    rintro e w' ⟨rfl, rfl⟩
    go_wp2_with fail
    refine H2.out.mono ?_
    rintro e w' ⟨rfl, rfl⟩
    go_wp2
    go_ret2
    exact ⟨rfl, rfl⟩
/-- Which error a slot answers. -/
def slotE (o : Option Ob) (n : Int) : Int := match o with | none => 57 | some x => if n < 0 ∨ n ≥ x.vs.length then 1 else 0
set_option maxHeartbeats 400000 in
theorem slot_any (p : Nat) (a n : Int) (S : Nat → Prop) (s : AS) (w : World) (h : IsArena w p S s) :
    Calls Try.prog 63 #[.pointer (some ⟨p, 0, none⟩), .int .i64 a, .int .i64 n] w fun e w' => e = .returned (.int .i64 (slotE (findOb 0 s.used a) n)) ∧ w' = w := by
  obtain ⟨vb, m, c0, c2, hh⟩ := h.used
  have H := Lib.hid (is_any p 0 a vb (some m) s.used w c2 hh)
  cases hx : findOb 0 s.used a with
  | none =>
    rw [hx] at H
    clear h c2 hh hx c0
    go_enter Try.func63, Try.ntmps63
    go_wp2_with fail
    refine H.out.mono ?_
    rintro e w' ⟨rfl, rfl⟩
    go_wp2
    go_ret
    exact ⟨rfl, rfl⟩
  | some x =>
    rw [hx] at H
    have H2 := Lib.hid (slots_any p 0 a vb (some m) s.used x w c0 hh hx)
    clear h c2 hh hx c0
    by_cases n0 : n < 0
    · have He := Lib.hid (show slotE (some x) n = 1 from if_pos (.inl n0))
      go_enter Try.func63, Try.ntmps63
      go_wp2_with fail
      refine H.out.mono ?_
      rintro e w' ⟨rfl, rfl⟩
      go_wp2_with fail
      go_ret
      exact ⟨by rw [He.out]; rfl, rfl⟩
    · by_cases n1 : n ≥ x.vs.length
      · have He := Lib.hid (show slotE (some x) n = 1 from if_pos (.inr n1))
        go_enter Try.func63, Try.ntmps63
        go_wp2_with fail
        refine H.out.mono ?_
        rintro e w' ⟨rfl, rfl⟩
        go_wp2_with fail
        refine H2.out.mono ?_
        rintro e w' ⟨rfl, rfl⟩
        go_wp2
        go_ret
        exact ⟨by rw [He.out]; rfl, rfl⟩
      · have He := Lib.hid (show slotE (some x) n = 0 from if_neg (fun h => h.elim n0 n1))
        go_enter Try.func63, Try.ntmps63
        go_wp2_with fail
        refine H.out.mono ?_
        rintro e w' ⟨rfl, rfl⟩
        go_wp2_with fail
        refine H2.out.mono ?_
        rintro e w' ⟨rfl, rfl⟩
        go_wp2
        go_ret
        exact ⟨by rw [He.out]; rfl, rfl⟩
set_option maxHeartbeats 400000 in
theorem Used_any (p : Nat) (S : Nat → Prop) (s : AS) (w : World) (h : IsArena w p S s) :
    Calls Try.prog 24 #[.pointer (some ⟨p, 0, none⟩)] w fun e w' => e = .returned (.int .i64 (tot s.used)) ∧ w' = w := by
  obtain ⟨vb, m, c0, c2, hh⟩ := h.used
  obtain ⟨a, c, rfl⟩ := row_form hh.bytes
  rw [encs_length] at c0
  clear h c2 hh
  go_enter Try.func24, Try.ntmps24
  go_wp2
  go_ret
  exact ⟨rfl, rfl⟩
end Go.Proofs.Ytniifefmjdjebaa
namespace Go.Proofs.Ytniifefmjdjebaa
open Go.RowKit
set_option linter.unusedVariables false
set_option linter.unusedSimpArgs false

/-- What a slot says. -/
def getV (o : Option Ob) (n : Int) : Int := match o with | none => 0 | some x => if n < 0 ∨ n ≥ x.vs.length then 0 else x.vs.getD n.toNat 0
set_option maxRecDepth 100000 in
set_option maxHeartbeats 400000 in
theorem Get_any (p : Nat) (a n : Int) (S : Nat → Prop) (s : AS) (w : World) (h : IsArena w p S s) :
    Calls Try.prog 32 #[.pointer (some ⟨p, 0, none⟩), .int .i64 a, .int .i64 n] w fun e w' => e = .returned (.tuple #[.int .i64 (getV (findOb 0 s.used a) n), .int .i64 (slotE (findOb 0 s.used a) n)]) ∧ ∃ k, w' = w.drewN k := by
  have H := Lib.hid (slot_any p a n S s w h)
  obtain ⟨vb, m, c0, c2, hh⟩ := h.used
  by_cases he : slotE (findOb 0 s.used a) n = 0
  · cases hx : findOb 0 s.used a with
    | none => rw [hx] at he; simp [slotE] at he
    | some x =>
      rw [hx] at he H
      have hn : ¬ (n < 0 ∨ n ≥ x.vs.length) := by intro hn; simp [slotE, hn] at he
      have He := Lib.hid he
      have Hg := Lib.hid (show getV (some x) n = x.vs.getD n.toNat 0 from if_neg hn)
      obtain ⟨a1, a2, a3, hok, _, _, hw⟩ := hh.word hx
      have n0 : 0 ≤ n := by omega
      have n1 : n < x.vs.length := by omega
      have hk2 := hok.2.1
      have hv := hw n.toNat (by omega)
      rw [show a + 8 + 8 * ((n.toNat : Nat) : Int) = a + 8 + 8 * n from by omega] at hv
      have hvo : I64 x.vs[n.toNat] := hok.2.2 _ (List.getElem_mem _)
      have H2 := Lib.hid (fun k => number_row p 0 (a + 8 + 8 * n) vb _ _ (w.drewN k) c0 hh.bytes (by omega) hvo hv)
      have Hd := Lib.hid (show x.vs.getD n.toNat 0 = x.vs[n.toNat] from by rw [List.getD_eq_getElem?_getD, List.getElem?_eq_getElem (by omega)]; rfl)
      rw [he] at H
      clear h c2 hh hx c0 hw hv hvo he hok a3
      go_enter Try.func32, Try.ntmps32
      go_wp2_with fail
      refine H.out.mono ?_
      rintro e w' ⟨rfl, rfl⟩
      go_wp2_with fail
      go_quiet ((first | (go_at_call 65; exact Calls.quiet_of_same (place_any a n _ ⟨by omega, by omega⟩ ⟨by omega, by omega⟩)) | (go_at_call 68; exact Calls.quiet_of_same (H2.out _))))
      go_wp2
      go_ret2
      exact ⟨by rw [He.out, Hg.out, Hd.out]; rfl, _, rfl⟩
  · have Hg := Lib.hid (show getV (findOb 0 s.used a) n = 0 from by
      cases hx : findOb 0 s.used a with
      | none => rfl
      | some x =>
        rw [hx] at he
        by_cases hn : n < 0 ∨ n ≥ x.vs.length
        · exact if_pos hn
        · exact absurd (if_neg hn) he)
    have hb : (slotE (findOb 0 s.used a) n == 0) = false := by simpa using he
    have hb2 : (slotE (findOb 0 s.used a) n != 0) = true := by simpa using he
    clear h c2 hh c0 he
    go_enter Try.func32, Try.ntmps32
    go_wp2_with fail
    refine H.out.mono ?_
    rintro e w' ⟨rfl, rfl⟩
    go_wp2
    go_ret2
    exact ⟨by rw [Hg.out]; rfl, 0, rfl⟩

/-- A slot of the object at an address, turned. -/
def setOb (off : Nat) : List Ob → Int → Nat → Int → List Ob
  | [], _, _, _ => []
  | x :: l, a, n, v => if a = off + 8 then ⟨x.kind, x.vs.set n v⟩ :: l else x :: setOb (off + x.size) l a n v
theorem size_set (x : Ob) (n : Nat) (v : Int) : (⟨x.kind, x.vs.set n v⟩ : Ob).size = x.size := by simp [Ob.size]
theorem tot_setOb : ∀ (l : List Ob) (off : Nat) (a : Int) (n : Nat) (v : Int), tot (setOb off l a n v) = tot l
  | [], _, _, _, _ => rfl
  | x :: l, off, a, n, v => by
    unfold setOb
    split
    · rw [tot_cons, tot_cons, size_set]
    · rw [tot_cons, tot_cons, tot_setOb l]
theorem length_setOb : ∀ (l : List Ob) (off : Nat) (a : Int) (n : Nat) (v : Int), (setOb off l a n v).length = l.length
  | [], _, _, _, _ => rfl
  | x :: l, off, a, n, v => by
    unfold setOb
    split
    · rfl
    · simp [length_setOb l]
theorem addrs_setOb : ∀ (l : List Ob) (off : Nat) (a : Int) (n : Nat) (v : Int), addrs off (setOb off l a n v) = addrs off l
  | [], _, _, _, _ => rfl
  | x :: l, off, a, n, v => by
    unfold setOb
    split
    · simp [addrs, size_set]
    · simp [addrs, addrs_setOb l]
theorem findOb_setOb : ∀ (l : List Ob) (off : Nat) (a : Int) (n : Nat) (v : Int) (k : Int), findOb off (setOb off l a n v) k = if k = a then (findOb off l a).map (fun x => ⟨x.kind, x.vs.set n v⟩) else findOb off l k
  | [], _, _, _, _, _ => by simp [setOb, findOb]
  | x :: l, off, a, n, v, k => by
    unfold setOb
    by_cases h : a = off + 8
    · rw [if_pos h]
      by_cases hk : k = a
      · subst hk; simp [findOb, h]
      · rw [if_neg hk]
        simp only [findOb, size_set]
        rw [if_neg (by omega), if_neg (by omega)]
    · rw [if_neg h]
      by_cases hk : k = a
      · subst hk
        simp only [findOb]
        rw [if_neg h, findOb_setOb l]
        simp [h]
      · simp only [findOb]
        rw [if_neg hk, findOb_setOb l, if_neg hk]
theorem findOb_setOb_some (l : List Ob) (off : Nat) (a : Int) (n : Nat) (v : Int) (k : Int) : (findOb off (setOb off l a n v) k).isSome = (findOb off l k).isSome := by
  rw [findOb_setOb]
  by_cases h : k = a
  · subst h; simp
  · rw [if_neg h]
theorem mem_setOb : ∀ (l : List Ob) (off : Nat) (a : Int) (n : Nat) (v : Int) (y : Ob), y ∈ setOb off l a n v → y ∈ l ∨ ∃ x ∈ l, y = ⟨x.kind, x.vs.set n v⟩
  | [], _, _, _, _, _, h => by simp [setOb] at h
  | x :: l, off, a, n, v, y, h => by
    unfold setOb at h
    split at h
    · rcases List.mem_cons.1 h with rfl | h
      · exact .inr ⟨x, by simp, rfl⟩
      · exact .inl (by simp [h])
    · rcases List.mem_cons.1 h with rfl | h
      · exact .inl (by simp)
      · rcases mem_setOb l _ _ _ _ _ h with h | ⟨x', h1, h2⟩
        · exact .inl (by simp [h])
        · exact .inr ⟨x', by simp [h1], h2⟩
theorem put8_append (p b : List Int) (n : Nat) (v : Int) : put8 (p ++ b) (p.length + n) v = p ++ put8 b n v := by
  unfold put8
  rw [List.take_append, List.take_of_length_le (by omega), show p.length + n - p.length = n from by omega, show p.length + n + 8 = p.length + (n + 8) from by omega, ← List.drop_drop, List.drop_left]
  simp [List.append_assoc]
theorem flat8_set (vs : List Int) (n : Nat) (v : Int) (h : n < vs.length) (r : List Int) : (vs.set n v).flatMap w8 ++ r = put8 (vs.flatMap w8 ++ r) (8 * n) v := by
  induction vs generalizing n with
  | nil => simp at h
  | cons y vs ih =>
    cases n with
    | zero => simp [put8, List.drop_left' (w8_length y)]
    | succ n =>
      have := ih n (by simpa using h)
      rw [List.set_cons_succ, List.flatMap_cons, List.append_assoc, this, List.flatMap_cons, List.append_assoc, show 8 * (n + 1) = (w8 y).length + 8 * n from by rw [w8_length]; omega, put8_append]
theorem encs_setOb : ∀ (l : List Ob) (off : Nat) (a : Int) (n : Nat) (v : Int) (x : Ob), findOb off l a = some x → n < x.vs.length → off ≤ a.toNat ∧ encs (setOb off l a n v) = put8 (encs l) (a.toNat + 8 + 8 * n - off) v
  | [], _, _, _, _, _, h, _ => by simp [findOb] at h
  | y :: l, off, a, n, v, x, h, hn => by
    unfold findOb at h
    unfold setOb
    split at h
    · rename_i ha
      obtain rfl : y = x := by simpa using h
      refine ⟨by omega, ?_⟩
      rw [if_pos ha, encs_cons, encs_cons, show a.toNat + 8 + 8 * n - off = (w8 y.kind ++ w8 y.vs.length).length + 8 * n from by simp [w8_length]; omega]
      simp only [enc, List.append_assoc, List.length_set]
      rw [flat8_set y.vs n v hn, ← List.append_assoc, ← List.append_assoc, ← put8_append]
      try simp [List.append_assoc]
    · rename_i ha
      have ih := encs_setOb l _ a n v x h hn
      have hs := size_pos y
      refine ⟨by omega, ?_⟩
      rw [if_neg ha, encs_cons, encs_cons, ih.2, ← put8_append, enc_length, show y.size + (a.toNat + 8 + 8 * n - (off + y.size)) = a.toNat + 8 + 8 * n - off from by omega]
theorem set_int (p o g len cap : Nat) (a n : Int) (bs : List Int) (w : World)
    (hb : w.cell? ⟨p, o, none⟩ = some (.slice (some ⟨g, 0, none⟩) len cap)) (hpg : p ≠ g)
    (hown : w.ownsRow 0 5 1 (.slice (some ⟨g, 0, none⟩) len cap) len (bs.map (Value.int .u8))) (ha : 0 ≤ a) (hat : a + 8 ≤ len) (hm : len ≤ 9223372036854775807) :
    Calls Try.prog 64 #[.pointer (some ⟨p, o, none⟩), .int .i64 a, .int .i64 n] w fun e w' => e = .returned (.tuple #[]) ∧
      w'.ownsRow 0 5 1 (.slice (some ⟨g, 0, none⟩) len cap) len ((put8 bs a.toNat n).map (Value.int .u8)) ∧ w.grownBy w' (some g) := by
  obtain ⟨k, rfl⟩ := Int.eq_ofNat_of_zero_le ha
  exact set_any p o g k len cap n bs w hb hpg hown (by omega) hm
/-- An arena behind a turn of its bytes alone. -/
theorem IsArena.turned {w w' : World} {p : Nat} {S : Nat → Prop} {s : AS} {l : List Ob} (h : IsArena w p S s) {g len cap : Nat} (hc : w.cell? ⟨p, 0, none⟩ = some (.slice (some ⟨g, 0, none⟩) len cap)) (hgr : w.grownBy w' (some g))
    (hown : w'.ownsRow 0 5 1 (.slice (some ⟨g, 0, none⟩) len cap) (encs l).length ((encs l).map (Value.int .u8))) (hf : ∀ k, (findOb 0 l k).isSome = (findOb 0 s.used k).isSome) (ha : addrs 0 l = addrs 0 s.used) (ht : tot l = tot s.used)
    (hok : ∀ x ∈ l, x.ok) : IsArena w' p S { s with used := l } ∧ Fr S w w' := by
  obtain ⟨vb, vl, m, vb', vl', mo', mv, hp, h1, h2, h3, h4, h5, h6, h7, h8, h9, h10, h11, hS⟩ := h
  obtain rfl : vb = .slice (some ⟨g, 0, none⟩) len cap := by rw [blk_cell hp 0] at hc; simpa using hc
  have hfr : Fr (fun k => k = g) w w' := Fr.of_grown hgr (fun k hk => by simpa using hk.symm)
  obtain ⟨f, hf1, hf2⟩ := h1.begins
  have hl : l.length = s.used.length := by rw [← addrs_length l 0, ha, addrs_length]
  refine ⟨⟨_, vl, m, vb', vl', mo', mv, hfr.heap hp (fun e => row_ne h1.bytes hp (by decide) (by rw [e]; rfl)), ⟨hown, ⟨f, hfr.omap hf1 (fun b hb e => ?_), fun k => (hf2 k).trans (hf k).symm⟩, hok, by rw [ht]; exact h1.small⟩,
    ?_, h3.keep hfr (fun k hk e => h5 k (by rw [e]; rfl) hk) (fun b hb e => ?_), hfr.imap h4 (fun e => row_ne_imap h1.bytes h4 (by rw [e]; rfl)), h5, h6, h7, h8, by rw [ht]; exact h9, h10, h11, hS⟩, hfr.mono (fun i _ e => (hS i).2 (.inr (.inl (by rw [e]; rfl))))⟩
  · obtain rfl : m = b := by simpa using hb
    exact row_ne_imap h1.bytes hf1 (by rw [e]; rfl)
  · show w'.ownsRow 0 2 1 vl l.length ((addrs 0 l).map (Value.int .i64))
    rw [ha, hl]
    exact hfr.row h2 (fun k hk e => rows_apart h1.bytes h2 (by decide) (by rw [e]; rfl) hk)
  · subst hb
    obtain ⟨f', hf', _⟩ := h3.begins
    exact row_ne_imap h1.bytes hf' (by rw [e]; rfl)
def AS.put (s : AS) (a n v : Int) : AS := if slotE (findOb 0 s.used a) n = 0 then { s with used := setOb 0 s.used a n.toNat v } else s
set_option maxRecDepth 100000 in
set_option maxHeartbeats 400000 in
theorem Put_any (p : Nat) (a n v : Int) (S : Nat → Prop) (s : AS) (w : World) (h : IsArena w p S s) (hv : I64 v) :
    Calls Try.prog 28 #[.pointer (some ⟨p, 0, none⟩), .int .i64 a, .int .i64 n, .int .i64 v] w fun e w' => e = .returned (.int .i64 (slotE (findOb 0 s.used a) n)) ∧ IsArena w' p S (s.put a n v) ∧ Fr S w w' := by
  have H := Lib.hid (slot_any p a n S s w h)
  by_cases he : slotE (findOb 0 s.used a) n = 0
  · have Hs := Lib.hid (show s.put a n v = { s with used := setOb 0 s.used a n.toNat v } from if_pos he)
    cases hx : findOb 0 s.used a with
    | none => rw [hx] at he; simp [slotE] at he
    | some x =>
      rw [hx] at he H
      have hn : ¬ (n < 0 ∨ n ≥ x.vs.length) := by intro hn; simp [slotE, hn] at he
      have He := Lib.hid he
      have Ha := Lib.hid h
      obtain ⟨vb, vl, m, vb', vl', mo', mv, hp, h1, h2, h3, h4, h5, h6, h7, h8, h9, h10, h11, hS⟩ := h
      obtain ⟨a1, a2, a3, hok, _, _, _⟩ := h1.word hx
      have n0 : 0 ≤ n := by omega
      have n1 : n < x.vs.length := by omega
      have hk2 := hok.2.1
      have hle := h1.small
      have hlen := encs_length s.used
      obtain ⟨g, cap, cur, rfl, hg, hgc, hcm⟩ := row_addr h1.bytes (by omega)
      have hpg : p ≠ g := fun e => row_ne h1.bytes hp (by decide) (by rw [e]; rfl)
      have c0 := blk_cell hp 0
      have H2 := Lib.hid (set_int p 0 g (encs s.used).length cap (a + 8 + 8 * n) v _ w.drew c0 hpg h1.bytes (by omega) (by omega) (by omega))
      have hx2 := (encs_setOb s.used 0 a n.toNat v x hx (by omega)).2
      rw [show a.toNat + 8 + 8 * n.toNat - 0 = (a + 8 + 8 * n).toNat from by omega] at hx2
      have Hx := Lib.hid hx2
      have Hf := Lib.hid (show ∀ x' ∈ setOb 0 s.used a n.toNat v, x'.ok from by
        intro y hy
        rcases mem_setOb _ _ _ _ _ _ hy with hy | ⟨x', hx', rfl⟩
        · exact h1.ok y hy
        · obtain ⟨q1, q2, q3⟩ := h1.ok x' hx'
          exact ⟨q1, by simpa using q2, fun u hu => by rcases List.mem_or_eq_of_mem_set hu with hu | rfl; exact q3 u hu; exact hv⟩)
      rw [he] at H
      have C0 := Lib.hid c0
      clear he hp hg h1 h2 h3 h4 h5 h6 h7 h8 hS hlen hx2 hx hok c0
      go_enter Try.func28, Try.ntmps28
      go_wp2_with fail
      refine H.out.mono ?_
      rintro e w' ⟨rfl, rfl⟩
      go_wp2_with fail
      go_still_tail 7, (by kernel_rfl)
      still_call (place_any a n _ ⟨by omega, by omega⟩ ⟨by omega, by omega⟩)
      repeat still_step
      refine wpStill_nil ?_
      change wpList _ _ _ _ _ w'.drew
      go_wp2_with fail
      refine H2.out.mono ?_
      rintro e w2 ⟨rfl, hown2, hgr2⟩
      go_wp2
      go_ret
      rw [← Hx.out] at hown2
      rw [Hs.out]
      have hl2 : (encs (setOb 0 s.used a n.toNat v)).length = (encs s.used).length := by rw [encs_length, encs_length, tot_setOb]
      have hgr3 : w'.grownBy w2 (some g) := ⟨hgr2.os, hgr2.tape, hgr2.output, hgr2.size, hgr2.block⟩
      have hfin := Ha.out.turned C0.out hgr3 (by rw [hl2]; exact hown2) (findOb_setOb_some s.used 0 a n.toNat v) (addrs_setOb _ _ _ _ _) (tot_setOb _ _ _ _ _) Hf.out
      exact ⟨by rw [He.out]; rfl, hfin.1, hfin.2⟩
  · have Hs := Lib.hid (show s.put a n v = s from if_neg he)
    have hb : (slotE (findOb 0 s.used a) n == 0) = false := by simpa using he
    have Ha := Lib.hid h
    clear h he
    go_enter Try.func28, Try.ntmps28
    go_wp2_with fail
    refine H.out.mono ?_
    rintro e w' ⟨rfl, rfl⟩
    go_wp2
    go_ret
    rw [Hs.out]
    exact ⟨rfl, Ha.out, Fr.refl _ _⟩
end Go.Proofs.Ytniifefmjdjebaa
namespace Go.Proofs.Ytniifefmjdjebaa
open Go.RowKit
set_option linter.unusedVariables false
set_option linter.unusedSimpArgs false

def AS.makeE (s : AS) (n : Int) : Int := if n < 0 ∨ n > 65536 then 1 else if roomB s n then 0 else 7
def AS.makeA (s : AS) (n : Int) : Int := if s.makeE n = 0 then tot s.used + 8 else 0
def AS.make (s : AS) (kind n : Int) : AS := if s.makeE n = 0 then { s with used := s.used ++ [⟨kind, List.replicate n.toNat 0⟩] } else s
/-- What is told of a world behind a call that may turn an arena. -/
def Turned (w w' : World) (p : Nat) (S : Nat → Prop) (s' : AS) : Prop := ∃ S', IsArena w' p S' s' ∧ Fr S w w' ∧ ∀ k, S' k → S k ∨ w.heap.size ≤ k
theorem Turned.same {w w' : World} {p : Nat} {S : Nat → Prop} {s' : AS} (h : IsArena w' p S s') (hf : Fr S w w') : Turned w w' p S s' := ⟨S, h, hf, fun _ h => .inl h⟩
theorem Fr.drewN (S : Nat → Prop) (w : World) (n : Nat) : Fr S w (w.drewN n) := ⟨rfl, rfl, rfl, Nat.le_refl _, fun _ _ _ => rfl⟩
theorem IsArena.drewN {w : World} {p : Nat} {S : Nat → Prop} {s : AS} (h : IsArena w p S s) (n : Nat) : IsArena (w.drewN n) p S s := h.keep (T := fun _ => False) (Fr.drewN _ w n) (fun _ _ e => e)
/-- 'lay' on the arena's used half. -/
theorem lay_arena (p : Nat) (kind n : Int) (S : Nat → Prop) (s : AS) (w : World) (h : IsArena w p S s) (hk : I64 kind) (h0 : 0 ≤ n) (h1 : n ≤ 65536) (hr : roomB s n = true) :
    Calls Try.prog 60 #[.pointer (some ⟨p, 0, none⟩), .int .i64 kind, .int .i64 n] w fun e w' => e = .returned (.int .i64 (tot s.used + 8)) ∧ Turned w w' p S { s with used := s.used ++ [⟨kind, List.replicate n.toNat 0⟩] } := by
  obtain ⟨k, rfl⟩ := Int.eq_ofNat_of_zero_le h0
  obtain ⟨vb, vl, m, vb', vl', mo', mv, hp, h1, h2, h3, h4, h5, h6, h7, h8, h9, h10, h11, hS⟩ := h
  have hroom := of_decide_eq_true hr
  refine (lay_any p m kind k vb vl _ _ _ _ _ s.used w hp h1 h2 hk (by omega) (by omega)).mono ?_
  rintro e w' ⟨rfl, vb2, vl2, hp2, hh2, hl2, hfr, ho1, ho2⟩
  rw [Int.toNat_natCast]
  have hb' : ∀ b, vb'.ownBlock = some b → ¬ (b = p ∨ b = m ∨ vb.ownBlock = some b ∨ vl.ownBlock = some b) := by
    rintro b hb (e | e | e | e)
    · exact row_ne h3.bytes hp (by decide) (by rw [← e, hb])
    · obtain ⟨f, hf, _⟩ := h1.begins
      exact row_ne_imap h3.bytes hf (by rw [← e, hb])
    · exact h5 b e hb
    · exact rows_apart h3.bytes h2 (by decide) hb e
  have hmap : ∀ b f, IMap w b f → b ≠ m → ¬ (b = p ∨ b = m ∨ vb.ownBlock = some b ∨ vl.ownBlock = some b) := by
    rintro b f hf hbm (e | e | e | e)
    · subst e
      obtain ⟨es, c, hb, _⟩ := hf
      rw [hp] at hb; simp at hb
    · exact hbm e
    · exact row_ne_imap h1.bytes hf e.symm
    · exact row_ne_imap h2 hf e.symm
  have hlt3 : ∀ b, vb'.ownBlock = some b → b < w.heap.size := fun b hb => row_lt h3.bytes hb
  refine ⟨rfl, _, ⟨vb2, vl2, m, vb', vl', mo', mv, hp2, hh2, by simpa using hl2, h3.keep hfr hb' (fun b hb => ?_), hfr.imap h4 (hmap mv _ h4 (Ne.symm h6)), ?_, h6, h7, h8, ?_, h10, h11, fun k => Iff.rfl⟩, hfr.mono ?_, ?_⟩
  · subst hb
    obtain ⟨f, hf, _⟩ := h3.begins
    exact hmap b f hf (fun e => h7 (by rw [e]))
  · intro b hb hb3
    rcases ho1 b hb with e | e
    · exact h5 b e hb3
    · have := hlt3 b hb3; omega
  · show tot (s.used ++ [_]) ≤ s.semi
    rw [tot_append, tot_cons, tot_nil]
    simp [Ob.size]
    omega
  · rintro i _ (e | e | e | e)
    · exact (hS i).2 (.inl e)
    · exact (hS i).2 (.inr (.inr (.inr (.inl e))))
    · exact (hS i).2 (.inr (.inl e))
    · exact (hS i).2 (.inr (.inr (.inl e)))
  · rintro i (e | e | e | e | e | e | e)
    · exact .inl ((hS i).2 (.inl e))
    · rcases ho1 i e with e | e
      · exact .inl ((hS i).2 (.inr (.inl e)))
      · exact .inr e
    · rcases ho2 i e with e | e
      · exact .inl ((hS i).2 (.inr (.inr (.inl e))))
      · exact .inr e
    · exact .inl ((hS i).2 (.inr (.inr (.inr (.inl e)))))
    · exact .inl ((hS i).2 (.inr (.inr (.inr (.inr (.inl e))))))
    · exact .inl ((hS i).2 (.inr (.inr (.inr (.inr (.inr (.inl e)))))))
    · exact .inl ((hS i).2 (.inr (.inr (.inr (.inr (.inr (.inr e)))))))
theorem Turned.drewN {w w' : World} {n : Nat} {p : Nat} {S : Nat → Prop} {s' : AS} (h : Turned (w.drewN n) w' p S s') : Turned w w' p S s' := by
  obtain ⟨S', h1, h2, h3⟩ := h
  exact ⟨S', h1, (Fr.drewN S w n).trans h2 (fun _ h => h) (fun _ _ h => h), h3⟩
set_option maxHeartbeats 400000 in
theorem Make_any (p : Nat) (kind n : Int) (S : Nat → Prop) (s : AS) (w : World) (h : IsArena w p S s) (hk : I64 kind) :
    Calls Try.prog 23 #[.pointer (some ⟨p, 0, none⟩), .int .i64 kind, .int .i64 n] w fun e w' => e = .returned (.tuple #[.int .i64 (s.makeA n), .int .i64 (s.makeE n)]) ∧ Turned w w' p S (s.make kind n) := by
  have H := Lib.hid (room_any p n S s w h)
  by_cases n0 : n < 0
  · have He := Lib.hid (show s.makeE n = 1 from if_pos (.inl n0))
    have Hm := Lib.hid (show s.make kind n = s from if_neg (by rw [He.out]; decide))
    have Hq := Lib.hid (show s.makeA n = 0 from if_neg (by rw [He.out]; decide))
    have Ha := Lib.hid (Turned.same h (Fr.refl S w)); clear h
    go_enter Try.func23, Try.ntmps23
    go_wp2_with fail
    go_ret2
    exact ⟨by rw [He.out, Hq.out]; rfl, by rw [Hm.out]; exact Ha.out⟩
  · by_cases n1 : n > 65536
    · have He := Lib.hid (show s.makeE n = 1 from if_pos (.inr n1))
      have Hm := Lib.hid (show s.make kind n = s from if_neg (by rw [He.out]; decide))
      have Hq := Lib.hid (show s.makeA n = 0 from if_neg (by rw [He.out]; decide))
      have Ha := Lib.hid (Turned.same h (Fr.refl S w)); clear h
      go_enter Try.func23, Try.ntmps23
      go_wp2_with fail
      go_ret2
      exact ⟨by rw [He.out, Hq.out]; rfl, by rw [Hm.out]; exact Ha.out⟩
    · cases hr : roomB s n with
      | false =>
        rw [hr] at H
        have He := Lib.hid (show s.makeE n = 7 from by unfold AS.makeE; rw [if_neg (fun h => h.elim n0 n1), hr]; rfl)
        have Hm := Lib.hid (show s.make kind n = s from if_neg (by rw [He.out]; decide))
        have Hq := Lib.hid (show s.makeA n = 0 from if_neg (by rw [He.out]; decide))
        have Ha := Lib.hid h; clear h hr
        go_enter Try.func23, Try.ntmps23
        go_wp2_with fail
        refine H.out.mono ?_
        rintro e w' ⟨rfl, k, rfl⟩
        go_wp2
        go_ret2
        exact ⟨by rw [He.out, Hq.out]; rfl, by rw [Hm.out]; exact Turned.same (Ha.out.drewN k) (Fr.drewN _ _ _)⟩
      | true =>
        have He := Lib.hid (show s.makeE n = 0 from by unfold AS.makeE; rw [if_neg (fun h => h.elim n0 n1), hr]; rfl)
        have Hm := Lib.hid (show s.make kind n = _ from if_pos He.out)
        have Hq := Lib.hid (show s.makeA n = _ from if_pos He.out)
        have H2 := Lib.hid (fun k => lay_arena p kind n S s (w.drewN k) (h.drewN k) hk (by omega) (by omega) hr)
        rw [hr] at H
        clear h hr hk
        go_enter Try.func23, Try.ntmps23
        go_wp2_with fail
        refine H.out.mono ?_
        rintro e w' ⟨rfl, k, rfl⟩
        go_wp2_with fail
        refine (H2.out k).mono ?_
        rintro e w' ⟨rfl, ht⟩
        have Ht := Lib.hid ht; clear ht
        go_wp2
        go_ret2
        exact ⟨by rw [He.out, Hq.out]; rfl, by rw [Hm.out]; exact Ht.out.drewN⟩

def AS.new (n : Int) : AS := ⟨[], [], fun _ => none, n.toNat⟩
def NewOk (w : World) (n : Int) (e : Ending) (w' : World) : Prop := ∃ p S, e = .returned (.tuple #[.pointer (some ⟨p, 0, none⟩), .int .i64 0]) ∧ IsArena w' p S (AS.new n) ∧ Fr (fun _ => False) w w' ∧ ∀ k, S k → w.heap.size ≤ k
set_option maxHeartbeats 400000 in
theorem New_bad (n : Int) (w : World) (h : n < 256 ∨ n > 1048576) : Calls Try.prog 21 #[.int .i64 n] w fun e w' => e = .returned (.tuple #[.pointer none, .int .i64 1]) ∧ w' = w := by
  by_cases n0 : n < 256
  · clear h
    go_enter Try.func21, Try.ntmps21
    go_wp2
    go_ret2
    exact ⟨rfl, rfl⟩
  · have n1 : n > 1048576 := by omega
    clear h
    go_enter Try.func21, Try.ntmps21
    go_wp2
    go_ret2
    exact ⟨rfl, rfl⟩
set_option maxHeartbeats 400000 in
theorem New_any (n : Int) (w : World) (h0 : 256 ≤ n) (h1 : n ≤ 1048576) : Calls Try.prog 21 #[.int .i64 n] w (NewOk w n) := by
  have hmm := @run_makeMap Try.prog
  go_enter Try.func21, Try.ntmps21
  go_wp2
  go_ret2
  have hp := heap_alloc_new ((w.alloc (.map #[] 0)).alloc (.map #[] 0)) (.cells #[.slice none 0 0, .slice none 0 0, .map (some w.heap.size), .slice none 0 0, .slice none 0 0, .map none, .map (some (w.heap.size + 1)), .int .i64 n] 92)
  have hma := IMap.made w
  have h2 := IMap.made (w.alloc (.map #[] 0))
  have f1 := Fr.alloc (fun _ => False) w (.map #[] 0)
  have f2 := Fr.alloc (fun _ => False) (w.alloc (.map #[] 0)) (.map #[] 0)
  have f3 := Fr.alloc (fun _ => False) ((w.alloc (.map #[] 0)).alloc (.map #[] 0)) (.cells #[.slice none 0 0, .slice none 0 0, .map (some w.heap.size), .slice none 0 0, .slice none 0 0, .map none, .map (some (w.heap.size + 1)), .int .i64 n] 92)
  have hs1 : (w.alloc (.map #[] 0)).heap.size = w.heap.size + 1 := by simp
  have hs2 : ((w.alloc (.map #[] 0)).alloc (.map #[] 0)).heap.size = w.heap.size + 1 + 1 := by simp
  rw [hs2] at hp
  rw [hs1] at h2
  obtain ⟨k, rfl⟩ := Int.eq_ofNat_of_zero_le (show 0 ≤ n by omega)
  refine ⟨_, _, rfl, ⟨.slice none 0 0, .slice none 0 0, w.heap.size, .slice none 0 0, .slice none 0 0, none, w.heap.size + 1, hp,
    ⟨World.ownsRow_nil _ _ _ _, ⟨_, f3.imap (f2.imap hma id) id, fun _ => rfl⟩, by simp [AS.new], by simp [AS.new, tot_nil]⟩, World.ownsRow_nil _ _ _ _,
    ⟨World.ownsRow_nil _ _ _ _, ⟨fun _ => none, fun _ => rfl, fun _ => rfl⟩, by simp [AS.new], by simp [AS.new, tot_nil]⟩, f3.imap h2 id, by simp [Value.ownBlock], by omega, by simp, by simp, by simp [AS.new, tot_nil], by simp [AS.new]; omega, by simp [AS.new]; omega, fun k => Iff.rfl⟩,
    (f1.trans f2 (fun _ h => h) (fun _ _ h => h)).trans f3 (fun _ h => h) (fun _ _ h => h), ?_⟩
  rintro i (e | e | e | e | e | e | e)
  · omega
  · simp [Value.ownBlock] at e
  · simp [Value.ownBlock] at e
  · omega
  · simp [Value.ownBlock] at e
  · simp at e
  · omega
/-- A builtin of one operand whose run is known as an equation. -/
theorem wpList_clear_run {P : Program} (w : World) {ops : Array Oper} {rest : List Oper} {o : Oper} {a : Act} {Q : Exit → Act → World → Prop} (hgd : o.guard = none) (x : Operand) (t : TypeId)
    (ho : o.op = .call { callee := .builtin .clear, args := #[x], argTypes := #[t] }) (vx : Value) (hx : a.eval x = vx)
    (v' : Value) (w' : World) (hr : (Builtin.clear_ #[t] o.type #[vx]).run P w = .ok v' w') (h : wpList P ops Q rest (a.put o.dst v') w') : wpList P ops Q (o :: rest) a w := by
  refine wpList_plain hgd fun K hK => ?_
  unfold Oper.wp execOp
  simp only [ho, resolve, invoke, builtin, Sem.run_bind, Sem.run_pure, Result.andThen_ok, List.map_toArray, List.map_cons, List.map_nil, hx, hr]
  exact hK _ _ h
set_option maxRecDepth 100000 in
set_option maxHeartbeats 400000 in
theorem Flip_any (p : Nat) (S : Nat → Prop) (s : AS) (w : World) (h : IsArena w p S s) :
    Calls Try.prog 33 #[.pointer (some ⟨p, 0, none⟩)] w fun e w' => e = .returned (.tuple #[]) ∧ Turned w w' p S ⟨[], s.used, fun _ => none, s.semi⟩ := by
  obtain ⟨vb, vl, m, vb', vl', mo', mv, hp, h1, h2, h3, h4, h5, h6, h7, h8, h9, h10, h11, hS⟩ := h
  have hmm := @run_makeMap Try.prog
  obtain ⟨x1, y1, rfl⟩ := row_form h1.bytes
  obtain ⟨x2, y2, rfl⟩ := row_form h2
  have c0 := blk_cell hp 0
  have c1 := blk_cell hp 1
  have c2 := blk_cell hp 2
  have c3 := blk_cell hp 3
  have c4 := blk_cell hp 4
  have c5 := blk_cell hp 5
  have c6 := blk_cell hp 6
  have f0 := blk_free hp 0
  have f1 := blk_free hp 1
  have f2 := blk_free hp 2
  have f3 := blk_free hp 3
  have f4 := blk_free hp 4
  have f5 := blk_free hp 5
  simp only [List.getElem?_toArray, List.getElem?_cons_succ, List.getElem?_cons_zero] at c0 c1 c2 c3 c4 c5 c6
  have Hp := Lib.hid hp; clear hp
  have HS := Lib.hid (And.intro h6 hS); clear hS
  have Hx := Lib.hid (And.intro h1 (And.intro h2 (And.intro h3 h4)))
  clear h1 h2 h3 h4 h5 h6 h7 h8
  go_enter Try.func33, Try.ntmps33
  have hq0 := blk_set (blk_set (blk_set Hp.out 3 (.slice x1 (encs s.used).length y1)) 4 (.slice x2 s.used.length y2)) 5 (.map (some m))
  have hfr0 : Fr (fun k => k = p) w (((w.setCell ⟨p, 3, none⟩ (.slice x1 (encs s.used).length y1)).setCell ⟨p, 4, none⟩ (.slice x2 s.used.length y2)).setCell ⟨p, 5, none⟩ (.map (some m))) :=
    ((Fr.setCell (S := fun k => k = p) w _ _ rfl).trans (Fr.setCell (S := fun k => k = p) _ _ _ rfl) (fun _ h => h) (fun _ _ h => h)).trans (Fr.setCell (S := fun k => k = p) _ _ _ rfl) (fun _ h => h) (fun _ _ h => h)
  have Hq0 := Lib.hid hq0; clear hq0
  go_upto_region 1 with fail
  obtain ⟨W1, hW1⟩ : ∃ W, W = (((w.setCell ⟨p, 3, none⟩ (.slice x1 (encs s.used).length y1)).setCell ⟨p, 4, none⟩ (.slice x2 s.used.length y2)).setCell ⟨p, 5, none⟩ (.map (some m))) := ⟨_, rfl⟩
  rw [← hW1] at Hq0 hfr0 ⊢
  clear hW1 c0 c1 c2 c3 c4 c5 c6 f0 f1 f2 f3 f4 f5
  have hq1 := Hq0.out
  simp only [List.setIfInBounds_toArray, List.set_cons_succ, List.set_cons_zero] at hq1
  have hq2 := (Fr.alloc (fun _ => False) W1 (.map #[] 0)).heap hq1 id
  have c0 := blk_cell hq2 0
  have c1 := blk_cell hq2 1
  have c2 := blk_cell hq2 2
  have c6 := blk_cell hq2 6
  have f0 := blk_free hq2 0
  have f1 := blk_free hq2 1
  have f2 := blk_free hq2 2
  simp only [List.getElem?_toArray, List.getElem?_cons_succ, List.getElem?_cons_zero] at c0 c1 c2 c6
  have Hq1 := Lib.hid hq1; clear hq1
  have Hq2 := Lib.hid hq2; clear hq2
  go_upto_region 2 with fail
  have hq3 := blk_set (blk_set (blk_set Hq2.out 0 (.slice none 0 0)) 1 (.slice none 0 0)) 2 (.map (some W1.heap.size))
  have hfr1 : Fr (fun k => k = p) W1 ((((W1.alloc (.map #[] 0)).setCell ⟨p, 0, none⟩ (.slice none 0 0)).setCell ⟨p, 1, none⟩ (.slice none 0 0)).setCell ⟨p, 2, none⟩ (.map (some W1.heap.size))) :=
    (((Fr.alloc (fun _ => False) W1 _).trans (Fr.setCell (S := fun k => k = p) _ _ _ rfl) (fun _ h => h.elim) (fun _ _ h => h)).trans (Fr.setCell (S := fun k => k = p) _ _ _ rfl) (fun _ h => h) (fun _ _ h => h)).trans (Fr.setCell (S := fun k => k = p) _ _ _ rfl) (fun _ h => h) (fun _ _ h => h)
  have hnew : IMap ((((W1.alloc (.map #[] 0)).setCell ⟨p, 0, none⟩ (.slice none 0 0)).setCell ⟨p, 1, none⟩ (.slice none 0 0)).setCell ⟨p, 2, none⟩ (.map (some W1.heap.size))) W1.heap.size (fun _ => none) := by
    have hlt : p < W1.heap.size := (Array.getElem?_eq_some_iff.1 Hq1.out).1
    have h0 := IMap.made W1
    exact ((((Fr.setCell (S := fun k => k = p) _ _ _ rfl).trans (Fr.setCell (S := fun k => k = p) _ _ _ rfl) (fun _ h => h) (fun _ _ h => h)).trans (Fr.setCell (S := fun k => k = p) _ _ _ rfl) (fun _ h => h) (fun _ _ h => h))).imap h0 (by show ¬ W1.heap.size = p; omega)
  obtain ⟨W2, hW2⟩ : ∃ W, W = ((((W1.alloc (.map #[] 0)).setCell ⟨p, 0, none⟩ (.slice none 0 0)).setCell ⟨p, 1, none⟩ (.slice none 0 0)).setCell ⟨p, 2, none⟩ (.map (some W1.heap.size))) := ⟨_, rfl⟩
  rw [← hW2] at hq3 hfr1 hnew ⊢
  clear hW2 c0 c1 c2 c6 f0 f1 f2
  simp only [List.setIfInBounds_toArray, List.set_cons_succ, List.set_cons_zero] at hq3
  have c6 := blk_cell hq3 6
  simp only [List.getElem?_toArray, List.getElem?_cons_succ, List.getElem?_cons_zero] at c6
  have Hq3 := Lib.hid hq3; clear hq3
  have hlt1 := hfr0.size
  obtain ⟨h1, h2, h3, h4⟩ := Hx.out
  have hfr2 : Fr (fun k => k = p) w W2 := hfr0.trans hfr1 (fun _ h => h) (fun _ _ h => h)
  have hnp : ∀ b f, IMap w b f → b ≠ p := by
    rintro b f ⟨es, c, hb, _⟩ rfl
    rw [Hp.out] at hb; simp at hb
  have h4' : IMap W2 mv s.moved := hfr2.imap h4 (hnp _ _ h4)
  obtain ⟨om, hclr, him⟩ := h4'.clear und90 0
  have hclr2 := Lib.hid (hclr W2 rfl)
  have him2 := him W2 rfl
  clear hclr him
  clear h1 h2 h3 h4 h4'
  go_wp2_with (refine wpList_clear_run _ rfl _ 90 rfl _ rfl _ _ hclr2.out ?_)
  go_end0
  obtain ⟨h1, h2, h3, h4⟩ := Hx.out
  have hlt := h4.lt
  have hmv : mv < W1.heap.size := by omega
  have hfr3 : Fr (fun k => k = mv) W2 (ChangeMaps.setBlock W2 mv om) := Fr.setBlock W2 mv om rfl
  have hfr : Fr (fun k => k = p ∨ k = mv) w (ChangeMaps.setBlock W2 mv om) := hfr2.trans hfr3 (fun _ h => .inl h) (fun _ _ h => .inr h)
  have hpmv : mv ≠ p := hnp _ _ h4
  obtain ⟨f, hf1, hf2⟩ := h1.begins
  have hlm : m < w.heap.size := IMap.lt hf1
  have hmp : m ≠ p := hnp _ _ hf1
  refine ⟨rfl, _, ⟨.slice none 0 0, .slice none 0 0, W1.heap.size, _, _, some m, mv, hfr3.heap Hq3.out (Ne.symm hpmv), ⟨World.ownsRow_nil _ _ _ _, ⟨_, hfr3.imap hnew (by show ¬ W1.heap.size = mv; omega), fun _ => rfl⟩, by simp, by simp [tot_nil]⟩, World.ownsRow_nil _ _ _ _,
    ⟨hfr.row h1.bytes ?_, ⟨f, hfr.omap hf1 ?_, hf2⟩, h1.ok, h1.small⟩, him2, by simp [Value.ownBlock], by omega, by simp; omega, by simp; exact Ne.symm HS.out.1, by simp [tot_nil], h10, h11, fun k => Iff.rfl⟩, hfr.mono ?_, ?_⟩
  · rintro k hk (e | e)
    · exact row_ne h1.bytes Hp.out (by decide) (by rw [← e, hk])
    · exact row_ne_imap h1.bytes h4 (by rw [← e, hk])
  · rintro b hb (e | e)
    · obtain rfl : m = b := by simpa using hb
      exact hmp e
    · obtain rfl : m = b := by simpa using hb
      exact HS.out.1 e
  · rintro i _ (e | e)
    · exact (HS.out.2 i).2 (.inl e)
    · exact (HS.out.2 i).2 (.inr (.inr (.inr (.inr (.inr (.inr e))))))
  · rintro i (e | e | e | e | e | e | e)
    · exact .inl ((HS.out.2 i).2 (.inl e))
    · simp [Value.ownBlock] at e
    · simp [Value.ownBlock] at e
    · exact .inr (by omega)
    · exact .inl ((HS.out.2 i).2 (.inr (.inl e)))
    · exact .inl ((HS.out.2 i).2 (.inr (.inr (.inr (.inl (by simpa using e.symm))))))
    · exact .inl ((HS.out.2 i).2 (.inr (.inr (.inr (.inr (.inr (.inr e)))))))
end Go.Proofs.Ytniifefmjdjebaa
namespace Go.Proofs.Ytniifefmjdjebaa
open Go.RowKit
set_option linter.unusedVariables false
set_option linter.unusedSimpArgs false

/-- A row that is new behind a call. -/
def NewRow (w w' : World) (e : TypeId) (xs : List Value) (en : Ending) : Prop := ∃ v, en = .returned v ∧ w'.ownsRow 0 e 1 v xs.length xs ∧ Fr (fun _ => False) w w' ∧ ∀ g, v.ownBlock = some g → w.heap.size ≤ g
theorem row_cell {w : World} {base e g n cap : Nat} {xs : List Value} (h : w.ownsRow base e 1 (.slice (some ⟨g, 0, none⟩) n cap) n xs) {j : Nat} {u : Value} (hu : xs[j]? = some u) : w.cell? ⟨g, j, none⟩ = some u := by
  have hl : xs.length = n * 1 := h.1
  have hj : j < xs.length := (List.getElem?_eq_some_iff.1 hu).1
  rw [h.cellAt j (by omega), hu]
theorem und22 : Try.prog.underlying 22 = some (.slice 3) := by kernel_rfl
theorem info3 : (Try.prog.info? 3).map (fun i => (i.zero, i.size, i.bytes)) = some (some (.int .i64 0), 1, 8) := by kernel_rfl
set_option maxRecDepth 100000 in
set_option maxHeartbeats 400000 in
theorem cloneB_any (vb : Value) (xs : List Value) (w : World) (h : w.ownsRow 0 5 1 vb xs.length xs) (h1 : ∀ x ∈ xs, x.oneCell' = true) (hm : xs.length ≤ 8388608) :
    Calls Try.prog 61 #[vb] w fun e w' => NewRow w w' 5 xs e := by
  obtain ⟨i5, hi5, hz5, hs5, hb5⟩ := info_parts info5
  have heq := fun (w : World) (a : Option Addr) (n c n' c' : Nat) => Lib.run_eql_slice_nil (P := Try.prog) w 33 5 a n c n' c' und33
  rcases h.2 with ⟨rfl, h0⟩ | ⟨g, cap, cur, rfl, _, hg, hnc, hcm, _⟩
  · obtain rfl : xs = [] := List.eq_nil_of_length_eq_zero h0
    go_enter Try.func61, Try.ntmps61
    go_wp2
    go_ret
    exact ⟨_, rfl, World.ownsRow_nil _ _ _ _, Fr.refl _ _, by simp [Value.ownBlock]⟩
  · have hb := World.ownsRow_lit (e := 5) (size := 1) w #[] 0 (base := 0) (Nat.zero_le _) (Nat.zero_le _) rfl
    have Hb := Lib.hid hb; clear hb
    have Hg := Lib.hid hg; clear hg
    have H := Lib.hid h; clear h
    have H1 := Lib.hid h1; clear h1
    go_enter Try.func61, Try.ntmps61
    go_wp2_with (first | (at_builtin; refine wpList_append_own_at _ rfl _ _ 33 rfl 0 5 i5 (.int .u8 0) 1 1 und33 hi5 hz5 hs5 hb5 rfl (by decide) _ _ _ rfl Hb.out ⟨g, 0, none⟩ xs.length cap xs rfl (by omega) ?c1 ?c2 ?c3 ?c4 ?c5 ?_))
    case c1 => exact fun j u hu => row_cell (H.out.alloc _) hu
    case c2 => exact H1.out
    case c3 => unfold maxLen; omega
    case c4 => omega
    intro v w1 hown hgr _ hloc
    have Hloc := Lib.hid hloc; clear hloc
    go_wp2
    go_ret
    refine ⟨_, rfl, hown, ((Fr.alloc (fun _ => False) w _).trans (Fr.of_grown hgr (S := fun k => k = w.heap.size) (fun k hk => by simpa [Value.ownBlock] using hk.symm)) (fun _ h => h) (fun i hi e => absurd e (by omega))), fun g hg => ?_⟩
    have hg' : v.ownBlock = some g := hg
    rcases Hloc.out with h | h <;> rw [h] at hg' <;> simp [Value.ownBlock] at hg' <;> omega
set_option maxRecDepth 100000 in
set_option maxHeartbeats 400000 in
theorem cloneW_any (vb : Value) (xs : List Value) (w : World) (h : w.ownsRow 0 2 1 vb xs.length xs) (h1 : ∀ x ∈ xs, x.oneCell' = true) (hm : xs.length ≤ 8388608) :
    Calls Try.prog 62 #[vb] w fun e w' => NewRow w w' 2 xs e := by
  obtain ⟨i5, hi5, hz5, hs5, hb5⟩ := info_parts info2
  have heq := fun (w : World) (a : Option Addr) (n c n' c' : Nat) => Lib.run_eql_slice_nil (P := Try.prog) w 38 2 a n c n' c' und38
  rcases h.2 with ⟨rfl, h0⟩ | ⟨g, cap, cur, rfl, _, hg, hnc, hcm, _⟩
  · obtain rfl : xs = [] := List.eq_nil_of_length_eq_zero h0
    go_enter Try.func62, Try.ntmps62
    go_wp2
    go_ret
    exact ⟨_, rfl, World.ownsRow_nil _ _ _ _, Fr.refl _ _, by simp [Value.ownBlock]⟩
  · have hb := World.ownsRow_lit (e := 2) (size := 1) w #[] 0 (base := 0) (Nat.zero_le _) (Nat.zero_le _) rfl
    have Hb := Lib.hid hb; clear hb
    have Hg := Lib.hid hg; clear hg
    have H := Lib.hid h; clear h
    have H1 := Lib.hid h1; clear h1
    go_enter Try.func62, Try.ntmps62
    go_wp2_with (first | (at_builtin; refine wpList_append_own_at _ rfl _ _ 38 rfl 0 2 i5 (.int .i64 0) 1 8 und38 hi5 hz5 hs5 hb5 rfl (by decide) _ _ _ rfl Hb.out ⟨g, 0, none⟩ xs.length cap xs rfl (by omega) ?c1 ?c2 ?c3 ?c4 ?c5 ?_))
    case c1 => exact fun j u hu => row_cell (H.out.alloc _) hu
    case c2 => exact H1.out
    case c3 => unfold maxLen; omega
    case c4 => omega
    intro v w1 hown hgr _ hloc
    have Hloc := Lib.hid hloc; clear hloc
    go_wp2
    go_ret
    refine ⟨_, rfl, hown, ((Fr.alloc (fun _ => False) w _).trans (Fr.of_grown hgr (S := fun k => k = w.heap.size) (fun k hk => by simpa [Value.ownBlock] using hk.symm)) (fun _ h => h) (fun i hi e => absurd e (by omega))), fun g hg => ?_⟩
    have hg' : v.ownBlock = some g := hg
    rcases Hloc.out with h | h <;> rw [h] at hg' <;> simp [Value.ownBlock] at hg' <;> omega
set_option maxRecDepth 100000 in
set_option maxHeartbeats 400000 in
theorem cloneI_any (vb : Value) (xs : List Value) (w : World) (h : w.ownsRow 0 3 1 vb xs.length xs) (h1 : ∀ x ∈ xs, x.oneCell' = true) (hm : xs.length ≤ 8388608) :
    Calls Try.prog 77 #[vb] w fun e w' => NewRow w w' 3 xs e := by
  obtain ⟨i5, hi5, hz5, hs5, hb5⟩ := info_parts info3
  have heq := fun (w : World) (a : Option Addr) (n c n' c' : Nat) => Lib.run_eql_slice_nil (P := Try.prog) w 22 3 a n c n' c' und22
  rcases h.2 with ⟨rfl, h0⟩ | ⟨g, cap, cur, rfl, _, hg, hnc, hcm, _⟩
  · obtain rfl : xs = [] := List.eq_nil_of_length_eq_zero h0
    go_enter Try.func77, Try.ntmps77
    go_wp2
    go_ret
    exact ⟨_, rfl, World.ownsRow_nil _ _ _ _, Fr.refl _ _, by simp [Value.ownBlock]⟩
  · have hb := World.ownsRow_lit (e := 3) (size := 1) w #[] 0 (base := 0) (Nat.zero_le _) (Nat.zero_le _) rfl
    have Hb := Lib.hid hb; clear hb
    have Hg := Lib.hid hg; clear hg
    have H := Lib.hid h; clear h
    have H1 := Lib.hid h1; clear h1
    go_enter Try.func77, Try.ntmps77
    go_wp2_with (first | (at_builtin; refine wpList_append_own_at _ rfl _ _ 22 rfl 0 3 i5 (.int .i64 0) 1 8 und22 hi5 hz5 hs5 hb5 rfl (by decide) _ _ _ rfl Hb.out ⟨g, 0, none⟩ xs.length cap xs rfl (by omega) ?c1 ?c2 ?c3 ?c4 ?c5 ?_))
    case c1 => exact fun j u hu => row_cell (H.out.alloc _) hu
    case c2 => exact H1.out
    case c3 => unfold maxLen; omega
    case c4 => omega
    intro v w1 hown hgr _ hloc
    have Hloc := Lib.hid hloc; clear hloc
    go_wp2
    go_ret
    refine ⟨_, rfl, hown, ((Fr.alloc (fun _ => False) w _).trans (Fr.of_grown hgr (S := fun k => k = w.heap.size) (fun k hk => by simpa [Value.ownBlock] using hk.symm)) (fun _ h => h) (fun i hi e => absurd e (by omega))), fun g hg => ?_⟩
    have hg' : v.ownBlock = some g := hg
    rcases Hloc.out with h | h <;> rw [h] at hg' <;> simp [Value.ownBlock] at hg' <;> omega
set_option maxHeartbeats 400000 in
theorem Bytes_any (p : Nat) (S : Nat → Prop) (s : AS) (w : World) (h : IsArena w p S s) :
    Calls Try.prog 25 #[.pointer (some ⟨p, 0, none⟩)] w fun e w' => NewRow w w' 5 ((encs s.used).map (Value.int .u8)) e := by
  obtain ⟨vb, vl, m, vb', vl', mo', mv, hp, h1, h2, h3, h4, h5, h6, h7, h8, h9, h10, h11, hS⟩ := h
  have hlen := encs_length s.used
  have hll := len_le_tot s.used
  have c0 := blk_cell hp 0
  simp only [List.getElem?_toArray, List.getElem?_cons_succ, List.getElem?_cons_zero] at c0
  have H := Lib.hid (cloneB_any _ ((encs s.used).map (Value.int .u8)) w (by rw [List.length_map]; exact h1.bytes) (by intro x hx; obtain ⟨y, _, rfl⟩ := List.mem_map.1 hx; rfl) (by rw [List.length_map]; omega))
  clear hp h1 h2 h3 h4 h5 h6 h7 h8 hS hlen
  go_enter Try.func25, Try.ntmps25
  go_wp2_with fail
  refine H.out.mono ?_
  rintro e w' ⟨v, rfl, h1, h2, h3⟩
  have H1 := Lib.hid (And.intro h1 (And.intro h2 h3))
  clear h1 h2 h3
  go_wp2
  go_ret
  exact ⟨v, rfl, H1.out⟩
set_option maxHeartbeats 400000 in
theorem All_any (p : Nat) (S : Nat → Prop) (s : AS) (w : World) (h : IsArena w p S s) :
    Calls Try.prog 27 #[.pointer (some ⟨p, 0, none⟩)] w fun e w' => NewRow w w' 2 ((addrs 0 s.used).map (Value.int .i64)) e := by
  obtain ⟨vb, vl, m, vb', vl', mo', mv, hp, h1, h2, h3, h4, h5, h6, h7, h8, h9, h10, h11, hS⟩ := h
  have hlen := encs_length s.used
  have hll := len_le_tot s.used
  have c0 := blk_cell hp 1
  simp only [List.getElem?_toArray, List.getElem?_cons_succ, List.getElem?_cons_zero] at c0
  have H := Lib.hid (cloneW_any _ ((addrs 0 s.used).map (Value.int .i64)) w (by rw [List.length_map]; rw [addrs_length]; exact h2) (by intro x hx; obtain ⟨y, _, rfl⟩ := List.mem_map.1 hx; rfl) (by rw [List.length_map]; rw [addrs_length]; omega))
  clear hp h1 h2 h3 h4 h5 h6 h7 h8 hS hlen
  go_enter Try.func27, Try.ntmps27
  go_wp2_with fail
  refine H.out.mono ?_
  rintro e w' ⟨v, rfl, h1, h2, h3⟩
  have H1 := Lib.hid (And.intro h1 (And.intro h2 h3))
  clear h1 h2 h3
  go_wp2
  go_ret
  exact ⟨v, rfl, H1.out⟩
end Go.Proofs.Ytniifefmjdjebaa
