/- Plain words for the arena: bytes of a number, objects as bytes, footprints, maps of int64 to whole numbers, append of zeros. No program in sight. -/
import Derived.WalkKit
import Derived.WalkSpells
import Derived.Lib.Hide
import Derived.Lib.AppendZerosOnto
namespace Go.Proofs.Ytniifefmjdjebaa
open Go.RowKit
set_option linter.unusedVariables false
set_option linter.unusedSimpArgs false

/-! ### bytes -/
/-- Byte k (0: the most significant) of a number of 64 bits. -/
def byteAt (n : Int) (k : Nat) : Int := n / 256 ^ (7 - k) % 256
def w8 (n : Int) : List Int := [byteAt n 0, byteAt n 1, byteAt n 2, byteAt n 3, byteAt n 4, byteAt n 5, byteAt n 6, byteAt n 7]
def be (l : List Int) : Int := l.foldl (fun a x => a * 256 + x) 0
def num (l : List Int) : Int := wrap64 (be l)
theorem w8_length (n : Int) : (w8 n).length = 8 := rfl
theorem byteAt_range (n : Int) (k : Nat) : 0 ≤ byteAt n k ∧ byteAt n k ≤ 255 := by unfold byteAt; omega
theorem w8_range (n : Int) : ∀ x ∈ w8 n, 0 ≤ x ∧ x ≤ 255 := by
  intro x hx
  simp only [w8, List.mem_cons, List.not_mem_nil, or_false] at hx
  rcases hx with h | h | h | h | h | h | h | h <;> subst h <;> exact byteAt_range _ _
theorem be_w8 (n : Int) : be (w8 n) = n % 18446744073709551616 := by
  simp only [be, w8, byteAt, List.foldl, Nat.reduceSub, Int.reducePow]
  omega
theorem num_w8 (n : Int) (h : -9223372036854775808 ≤ n ∧ n ≤ 9223372036854775807) : num (w8 n) = n := by
  unfold num; rw [be_w8]; unfold wrap64; omega
theorem be_snoc (l : List Int) (x : Int) : be (l ++ [x]) = be l * 256 + x := by simp [be]
theorem fold_range : ∀ (l : List Int) (a : Int), 0 ≤ a → (∀ x ∈ l, 0 ≤ x ∧ x ≤ 255) → 0 ≤ l.foldl (fun a x => a * 256 + x) a ∧ l.foldl (fun a x => a * 256 + x) a < (a + 1) * 256 ^ l.length
  | [], a, h0, _ => by simp; omega
  | x :: l, a, h0, h => by
    have hx := h x (by simp)
    have := fold_range l (a * 256 + x) (by omega) (fun y hy => h y (by simp [hy]))
    refine ⟨this.1, Int.lt_of_lt_of_le this.2 ?_⟩
    rw [List.length_cons, Int.pow_succ, Int.mul_comm (256 ^ l.length) 256, ← Int.mul_assoc]
    exact Int.mul_le_mul_of_nonneg_right (by omega) (Int.pow_nonneg (by omega))
theorem be_range (l : List Int) (h : ∀ x ∈ l, 0 ≤ x ∧ x ≤ 255) : 0 ≤ be l ∧ be l < 256 ^ l.length := by
  have := fold_range l 0 (by omega) h
  simpa [be] using this
/-- The bytes of the number that eight bytes say are these bytes. -/
theorem w8_num (l : List Int) (h8 : l.length = 8) (h : ∀ x ∈ l, 0 ≤ x ∧ x ≤ 255) : w8 (num l) = l := by
  match l, h8 with
  | [a, b, c, d, e, f, g, i], _ =>
    simp only [List.mem_cons, List.not_mem_nil, or_false, forall_eq_or_imp, forall_eq] at h
    simp only [num, be, w8, byteAt, List.foldl, Nat.reduceSub, Int.reducePow, wrap64]
    congr 1 <;> (try omega)
    congr 1 <;> (try omega)
    congr 1 <;> (try omega)
    congr 1 <;> (try omega)
    congr 1 <;> (try omega)
    congr 1 <;> (try omega)
    congr 1 <;> (try omega)
    congr 1 <;> (try omega)

/-! ### footprints -/
/-- w' is w but for the blocks in S and for new ones. -/
structure Fr (S : Nat → Prop) (w w' : World) : Prop where
  os : w'.os = w.os
  tape : w'.tape = w.tape
  output : w'.output = w.output
  size : w.heap.size ≤ w'.heap.size
  block : ∀ k, k < w.heap.size → ¬ S k → w'.heap[k]? = w.heap[k]?
theorem Fr.refl (S : Nat → Prop) (w : World) : Fr S w w := ⟨rfl, rfl, rfl, Nat.le_refl _, fun _ _ _ => rfl⟩
theorem Fr.trans {S T U : Nat → Prop} {a b c : World} (h : Fr S a b) (k : Fr T b c) (hs : ∀ i, S i → U i) (ht : ∀ i, i < a.heap.size → T i → U i) : Fr U a c :=
  ⟨k.os.trans h.os, k.tape.trans h.tape, k.output.trans h.output, Nat.le_trans h.size k.size, fun i hi hu => (k.block i (Nat.lt_of_lt_of_le hi h.size) (fun e => hu (ht i hi e))).trans (h.block i hi (fun e => hu (hs i e)))⟩
theorem Fr.mono {S U : Nat → Prop} {a b : World} (h : Fr S a b) (hs : ∀ i, i < a.heap.size → S i → U i) : Fr U a b :=
  ⟨h.os, h.tape, h.output, h.size, fun i hi hu => h.block i hi (fun e => hu (hs i hi e))⟩
theorem Fr.of_grown {w w' : World} {row : Option Nat} (h : w.grownBy w' row) {S : Nat → Prop} (hs : ∀ k, row = some k → S k) : Fr S w w' :=
  ⟨h.os, h.tape, h.output, h.size, fun k hk hn => h.block k hk (fun e => hn (hs k e.symm))⟩
theorem Fr.of_below {w w' : World} {B : Nat} (h : Below B w w') {S : Nat → Prop} (hs : ∀ k, k < w.heap.size → B ≤ k → S k) : Fr S w w' :=
  ⟨h.os, h.tape, h.output, h.size, fun k hk hn => h.block k (Nat.lt_of_not_le (fun e => hn (hs k hk e)))⟩
theorem Fr.below {S : Nat → Prop} {w w' : World} {B : Nat} (h : Fr S w w') (hB : B ≤ w.heap.size) (hs : ∀ k, S k → B ≤ k) : Below B w w' :=
  ⟨h.os, h.tape, h.output, h.size, fun k hk => h.block k (by omega) (fun e => by have := hs k e; omega)⟩
theorem Fr.grown {S : Nat → Prop} {w w' : World} (h : Fr S w w') {row : Option Nat} (hs : ∀ k, k < w.heap.size → S k → row = some k) : w.grownBy w' row :=
  ⟨h.os, h.tape, h.output, h.size, fun k hk hn => h.block k hk (fun e => hn (hs k hk e).symm)⟩
theorem Fr.drew (S : Nat → Prop) (w : World) : Fr S w w.drew := ⟨rfl, rfl, rfl, Nat.le_refl _, fun _ _ _ => rfl⟩
theorem Fr.alloc (S : Nat → Prop) (w : World) (o : Obj) : Fr S w (w.alloc o) := Fr.of_grown (World.grownBy_alloc w o none) (by simp)
theorem Fr.setCell {S : Nat → Prop} (w : World) (a : Addr) (v : Value) (h : S a.block) : Fr S w (w.setCell a v) :=
  ⟨rfl, rfl, rfl, by simp [World.setCell], fun k _ hn => Below.heap_setCell _ _ _ _ (fun e => hn (e ▸ h))⟩
theorem Fr.cell {S : Nat → Prop} {w w' : World} (h : Fr S w w') {a : Addr} {v : Value} (hc : w.cell? a = some v) (hn : ¬ S a.block) : w'.cell? a = some v :=
  (World.cell?_of_block (h.block a.block (World.block_lt_of_cell? w a hc) hn)).trans hc
theorem Fr.heap {S : Nat → Prop} {w w' : World} (h : Fr S w w') {b : Nat} {o : Obj} (hb : w.heap[b]? = some o) (hn : ¬ S b) : w'.heap[b]? = some o :=
  (h.block b (Array.getElem?_eq_some_iff.1 hb).1 hn).trans hb
theorem Fr.row {S : Nat → Prop} {w w' : World} (h : Fr S w w') {base e size n : Nat} {v : Value} {xs : List Value} (ho : w.ownsRow base e size v n xs) (hn : ∀ k, v.ownBlock = some k → ¬ S k) : w'.ownsRow base e size v n xs := by
  refine ⟨ho.1, ?_⟩
  rcases ho.2 with h1 | ⟨g, cap, cur, rfl, hb, hg, rest⟩
  · exact .inl h1
  · exact .inr ⟨g, cap, cur, rfl, hb, h.heap hg (hn g rfl), rest⟩

/-! ### maps of int64 to int64 or int -/
def lookI : List MapEntry → Int → Option Int
  | [], _ => none
  | e :: es, k => match e.key, e.val with
    | .int .i64 a, .int .i64 v => if k = a then some v else lookI es k
    | _, _ => lookI es k
def Good (e : MapEntry) : Prop := ∃ k v, e.key = .int .i64 k ∧ e.val = .int .i64 v
/-- Block b of w is a map that says f. -/
def IMap (w : World) (b : Nat) (f : Int → Option Int) : Prop := ∃ es clock, w.heap[b]? = some (.map es clock) ∧ (∀ e ∈ es.toList, Good e) ∧ ∀ k, lookI es.toList k = f k
/-- The same, nil allowed. -/
def OMap (w : World) (mo : Option Nat) (f : Int → Option Int) : Prop := match mo with | none => ∀ k, f k = none | some b => IMap w b f
theorem IMap.lt {w : World} {b : Nat} {f : Int → Option Int} (h : IMap w b f) : b < w.heap.size := by obtain ⟨es, c, hb, _⟩ := h; exact (Array.getElem?_eq_some_iff.1 hb).1
theorem Fr.imap {S : Nat → Prop} {w w' : World} (h : Fr S w w') {b : Nat} {f : Int → Option Int} (hm : IMap w b f) (hn : ¬ S b) : IMap w' b f := by
  obtain ⟨es, c, hb, r⟩ := hm
  exact ⟨es, c, h.heap hb hn, r⟩
theorem Fr.omap {S : Nat → Prop} {w w' : World} (h : Fr S w w') {mo : Option Nat} {f : Int → Option Int} (hm : OMap w mo f) (hn : ∀ b, mo = some b → ¬ S b) : OMap w' mo f := by
  cases mo with
  | none => exact hm
  | some b => exact h.imap hm (hn b rfl)
theorem IMap.ext {w : World} {b : Nat} {f g : Int → Option Int} (h : IMap w b f) (he : ∀ k, f k = g k) : IMap w b g := by
  obtain ⟨es, c, hb, r, q⟩ := h
  exact ⟨es, c, hb, r, fun k => (q k).trans (he k)⟩
theorem findNow_lookI (k : Int) : ∀ (es : List MapEntry) (i : Nat), (∀ e ∈ es, Good e) →
    (Instr.findNow (.int .i64) (.int .i64 k) es i = some none ∧ lookI es k = none) ∨ ∃ j v, Instr.findNow (.int .i64) (.int .i64 k) es i = some (some (i + j, .int .i64 v)) ∧ lookI es k = some v ∧ ∃ e, es[j]? = some e ∧ e.key = .int .i64 k
  | [], i, _ => .inl ⟨rfl, rfl⟩
  | e :: es, i, h => by
    obtain ⟨a, v, ha, hv⟩ := h e (by simp)
    by_cases hk : k = a
    · subst hk
      exact .inr ⟨0, v, by simp [Instr.findNow, Instr.sameNow, ha, hv], by simp [lookI, ha, hv], e, by simp, ha⟩
    · have hk' : (k == a) = false := by simpa using hk
      rcases findNow_lookI k es (i + 1) (fun e he => h e (by simp [he])) with ⟨h1, h2⟩ | ⟨j, u, h1, h2, e', h3, h4⟩
      · exact .inl ⟨by simp [Instr.findNow, Instr.sameNow, ha, hk', h1], by simp [lookI, ha, hv, hk, h2]⟩
      · exact .inr ⟨j + 1, u, by simp [Instr.findNow, Instr.sameNow, ha, hk', h1]; omega, by simp [lookI, ha, hv, hk, h2], e', by simpa using h3, h4⟩
section
variable {P : Program} {w : World} {b : Nat} {f : Int → Option Int} {t kt et : TypeId}
theorem key_int (k : Int) : MapKept.IsKey (.int .i64) (.int .i64 k) := by simp [MapKept.IsKey]
theorem run_lookup_nil (ht : P.underlying t = some (.map kt et)) (hk : P.underlying kt = some (.int .i64)) (hz : ∀ w, (zeroValue et).run P w = .ok (.int .i64 0) w) (k : Int) (w : World) :
    (Instr.lookup t (.map none) (.int .i64 k) true).run P w = .ok (.tuple #[.int .i64 0, .bool false]) w := by
  unfold Instr.lookup
  simp only [Sem.run_bind, Sem.run_pure, run_underlying ht, Result.andThen_ok, MapKept.run_checkKey (P := P) (w := w) hk (key_int k) _ 9999, MapKept.run_findKey (P := P) (w := w) (l := []) hk (show Instr.findNow (.int .i64) (.int .i64 k) [] 0 = some none from rfl), hz]
  rfl
theorem IMap.look (h : IMap w b f) (ht : P.underlying t = some (.map kt et)) (hk : P.underlying kt = some (.int .i64)) (hz : ∀ w, (zeroValue et).run P w = .ok (.int .i64 0) w) (k : Int) :
    (Instr.lookup t (.map (some b)) (.int .i64 k) true).run P w = .ok (.tuple #[.int .i64 ((f k).getD 0), .bool (f k).isSome]) w := by
  obtain ⟨es, clock, hb, hg, hf⟩ := h
  unfold Instr.lookup
  rcases findNow_lookI k es.toList 0 hg with ⟨h1, h2⟩ | ⟨j, v, h1, h2, _⟩
  · simp only [Sem.run_bind, Sem.run_pure, run_underlying ht, Result.andThen_ok, MapKept.run_getObj_map hb, MapKept.run_checkKey (P := P) (w := w) hk (key_int k) _ 9999, MapKept.run_findKey (P := P) (w := w) hk h1, hz, ← hf k, h2]
    rfl
  · simp only [Sem.run_bind, Sem.run_pure, run_underlying ht, Result.andThen_ok, MapKept.run_getObj_map hb, MapKept.run_checkKey (P := P) (w := w) hk (key_int k) _ 9999, MapKept.run_findKey (P := P) (w := w) hk h1, hz, ← hf k, h2]
    rfl
theorem OMap.look {mo : Option Nat} (h : OMap w mo f) (ht : P.underlying t = some (.map kt et)) (hk : P.underlying kt = some (.int .i64)) (hz : ∀ w, (zeroValue et).run P w = .ok (.int .i64 0) w) (k : Int) :
    (Instr.lookup t (.map mo) (.int .i64 k) true).run P w = .ok (.tuple #[.int .i64 ((f k).getD 0), .bool (f k).isSome]) w := by
  cases mo with
  | none => rw [run_lookup_nil ht hk hz, show f k = none from h k]; rfl
  | some b => exact IMap.look h ht hk hz k

/-- What a store makes of the entries. -/
def putE (es : Array MapEntry) (clock : Nat) (k v : Int) : Array MapEntry × Nat :=
  match Instr.findNow (.int .i64) (.int .i64 k) es.toList 0 with
  | some (some (i, _)) => (es.modify i fun e => { e with key := .int .i64 k, val := .int .i64 v }, clock)
  | _ => (es.push { key := .int .i64 k, val := .int .i64 v, born := clock }, clock + 1)
theorem run_mapUpdate_int {es : Array MapEntry} {clock : Nat} (hb : w.heap[b]? = some (.map es clock)) (hg : ∀ e ∈ es.toList, Good e) (ht : P.underlying t = some (.map kt et)) (hk : P.underlying kt = some (.int .i64)) (k v : Int) :
    (Instr.mapUpdate t (.map (some b)) (.int .i64 k) (.int .i64 v)).run P w = .ok () (ChangeMaps.setBlock w b (.map (putE es clock k v).1 (putE es clock k v).2)) := by
  unfold Instr.mapUpdate putE
  rcases findNow_lookI k es.toList 0 hg with ⟨h1, h2⟩ | ⟨j, u, h1, h2, e, h3, h4⟩
  · simp only [Sem.run_bind, Sem.run_pure, run_underlying ht, Result.andThen_ok, MapKept.run_getObj_map hb, MapKept.run_checkKey (P := P) (w := w) hk (key_int k) _ 9999, MapKept.run_findKey (P := P) (w := w) hk h1, h1, MapKept.run_setObj_map _ hb]
    rfl
  · have h5 : ((es[0 + j]?).map (·.key)).getD (.int .i64 k) = .int .i64 k := by
      have : es[j]? = some e := by simpa using h3
      simp [this, h4]
    simp only [Sem.run_bind, Sem.run_pure, run_underlying ht, Result.andThen_ok, MapKept.run_getObj_map hb, MapKept.run_checkKey (P := P) (w := w) hk (key_int k) _ 9999, MapKept.run_findKey (P := P) (w := w) hk h1, h1, h5, MapKept.run_keyThatStays (key_int k), MapKept.run_setObj_map _ hb]
    rfl
theorem lookI_append (k : Int) : ∀ (l r : List MapEntry), (∀ e ∈ l, Good e) → lookI (l ++ r) k = (lookI l k).or (lookI r k)
  | [], r, _ => by simp [lookI]
  | e :: l, r, h => by
    obtain ⟨a, v, ha, hv⟩ := h e (by simp)
    by_cases hk : k = a
    · simp [lookI, ha, hv, hk]
    · simp [lookI, ha, hv, hk, lookI_append k l r (fun e he => h e (by simp [he]))]
theorem lookI_modify (k k' v : Int) : ∀ (l : List MapEntry) (j : Nat) (u : Int), (∀ e ∈ l, Good e) → Instr.findNow (.int .i64) (.int .i64 k) l 0 = some (some (j, .int .i64 u)) →
    lookI (l.modify j fun e => { e with key := .int .i64 k, val := .int .i64 v }) k' = if k' = k then some v else lookI l k' := by
  intro l
  have gen : ∀ (l : List MapEntry) (i j : Nat) (u : Int), (∀ e ∈ l, Good e) → Instr.findNow (.int .i64) (.int .i64 k) l i = some (some (i + j, .int .i64 u)) →
      lookI (l.modify j fun e => { e with key := .int .i64 k, val := .int .i64 v }) k' = if k' = k then some v else lookI l k' := by
    intro l
    induction l with
    | nil => intro i j u _ h; simp [Instr.findNow] at h
    | cons e l ih =>
      intro i j u hg h
      obtain ⟨a, x, ha, hx⟩ := hg e (by simp)
      by_cases hk : k = a
      · subst hk
        simp [Instr.findNow, Instr.sameNow, ha] at h
        obtain ⟨h1, _⟩ := h
        obtain rfl : j = 0 := by omega
        by_cases hq : k' = k <;> simp [lookI, ha, hx, hq]
      · have hk' : (k == a) = false := by simpa using hk
        simp [Instr.findNow, Instr.sameNow, ha, hk'] at h
        rcases findNow_lookI k l (i + 1) (fun e he => hg e (by simp [he])) with ⟨h1, _⟩ | ⟨m, u', h1, _⟩
        · rw [h1] at h; simp at h
        · have hm : j = m + 1 := by rw [h1] at h; simp at h; omega
          subst hm
          have := ih (i + 1) m u (fun e he => hg e (by simp [he])) (by rw [h]; congr 2; simp; omega)
          by_cases hq : k' = a
          · subst hq
            simp [lookI, ha, hx, Ne.symm hk]
          · simp [lookI, ha, hx, hq, this]
  intro j u hg h
  exact gen l 0 j u hg (by simpa using h)
theorem putE_ok {es : Array MapEntry} (clock : Nat) (hg : ∀ e ∈ es.toList, Good e) (k v : Int) :
    (∀ e ∈ (putE es clock k v).1.toList, Good e) ∧ ∀ k', lookI (putE es clock k v).1.toList k' = if k' = k then some v else lookI es.toList k' := by
  unfold putE
  rcases findNow_lookI k es.toList 0 hg with ⟨h1, h2⟩ | ⟨j, u, h1, h2, e, h3, h4⟩
  · rw [h1]
    refine ⟨?_, ?_⟩
    · intro e he
      simp at he
      rcases he with he | he
      · exact hg e (by simpa using he)
      · subst he; exact ⟨k, v, rfl, rfl⟩
    · intro k'
      simp only [Array.toList_push]
      rw [lookI_append k' _ _ hg]
      by_cases hk : k' = k
      · subst hk; simp [h2, lookI]
      · simp [lookI, hk]
  · rw [h1]
    refine ⟨?_, ?_⟩
    · intro e' he
      simp only [Array.toList_modify] at he
      obtain ⟨i, hi⟩ := List.getElem?_of_mem he
      rw [List.getElem?_modify] at hi
      cases hq : es.toList[i]? with
      | none => rw [hq] at hi; simp at hi
      | some e0 =>
        rw [hq] at hi
        simp at hi
        split at hi
        · subst hi; exact ⟨k, v, rfl, rfl⟩
        · subst hi; exact hg _ (List.mem_of_getElem? hq)
    · intro k'
      simp only [Array.toList_modify]
      exact lookI_modify k k' v es.toList (0 + j) u hg h1
/-- A store into a map, as an equation on the run in whatever world has that heap. -/
theorem IMap.put (h : IMap w b f) (ht : P.underlying t = some (.map kt et)) (hk : P.underlying kt = some (.int .i64)) (k v : Int) :
    ∃ o, (∀ W : World, W.heap[b]? = w.heap[b]? → (Instr.mapUpdate t (.map (some b)) (.int .i64 k) (.int .i64 v)).run P W = .ok () (ChangeMaps.setBlock W b o)) ∧
      ∀ W : World, W.heap[b]? = w.heap[b]? → IMap (ChangeMaps.setBlock W b o) b (fun k' => if k' = k then some v else f k') := by
  obtain ⟨es, clock, hb, hg, hf⟩ := h
  refine ⟨_, fun W hW => run_mapUpdate_int (hW.trans hb) hg ht hk k v, fun W hW => ⟨_, _, MapKept.heap_set (hW.trans hb) |>.1, (putE_ok clock hg k v).1, fun k' => ?_⟩⟩
  rw [(putE_ok clock hg k v).2, hf]
/-- 'clear(m)'. -/
theorem IMap.clear (h : IMap w b f) (ht : P.underlying t = some (.map kt et)) (ty : TypeId) :
    ∃ o, (∀ W : World, W.heap[b]? = w.heap[b]? → (Builtin.clear_ #[t] ty #[.map (some b)]).run P W = .ok (.tuple #[]) (ChangeMaps.setBlock W b o)) ∧
      ∀ W : World, W.heap[b]? = w.heap[b]? → IMap (ChangeMaps.setBlock W b o) b (fun _ => none) := by
  obtain ⟨es, clock, hb, hg, hf⟩ := h
  refine ⟨.map #[] clock, fun W hW => ?_, fun W hW => ⟨_, _, MapKept.heap_set (hW.trans hb) |>.1, by simp, fun _ => rfl⟩⟩
  have hb' := hW.trans hb
  simp [Builtin.clear_, run_underlying ht, Result.andThen, MapKept.run_getObj_map hb', MapKept.run_setObj_map _ hb', ChangeMaps.setBlock]
theorem Fr.setBlock {S : Nat → Prop} (w : World) (b : Nat) (o : Obj) (h : S b) : Fr S w (ChangeMaps.setBlock w b o) :=
  ⟨rfl, rfl, rfl, by simp [ChangeMaps.setBlock], fun k _ hn => by
    have : k ≠ b := fun e => hn (e ▸ h)
    simp only [ChangeMaps.setBlock, Array.getElem?_setIfInBounds]
    rw [if_neg (Ne.symm this)]⟩
theorem IMap.made (w : World) : IMap (w.alloc (.map #[] 0)) w.heap.size (fun _ => none) := ⟨#[], 0, heap_alloc_new w _, by simp, fun _ => rfl⟩
end
end Go.Proofs.Ytniifefmjdjebaa
