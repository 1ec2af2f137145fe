/- Objects as bytes; walks: is, kind, slots, place. -/
import Derived.Test.YtniifefmjdjebaaA3
namespace Go.Proofs.Ytniifefmjdjebaa
open Go.RowKit
set_option linter.unusedVariables false
set_option linter.unusedSimpArgs false

/-- An object: its kind, its slots. -/
structure Ob where
  kind : Int
  vs : List Int
def I64 (n : Int) : Prop := -9223372036854775808 ≤ n ∧ n ≤ 9223372036854775807
def Ob.ok (x : Ob) : Prop := I64 x.kind ∧ x.vs.length ≤ 65536 ∧ ∀ v ∈ x.vs, I64 v
def Ob.size (x : Ob) : Nat := 16 + 8 * x.vs.length
def enc (x : Ob) : List Int := w8 x.kind ++ w8 x.vs.length ++ x.vs.flatMap w8
def encs (l : List Ob) : List Int := l.flatMap enc
def tot (l : List Ob) : Nat := (l.map Ob.size).sum
/-- The object that begins at an address, those of the list lying from off on. -/
def findOb (off : Nat) : List Ob → Int → Option Ob
  | [], _ => none
  | x :: l, a => if a = off + 8 then some x else findOb (off + x.size) l a
def addrs (off : Nat) : List Ob → List Int
  | [] => []
  | x :: l => (off + 8 : Int) :: addrs (off + x.size) l
theorem tot_nil : tot [] = 0 := rfl
theorem tot_cons (x : Ob) (l : List Ob) : tot (x :: l) = x.size + tot l := by simp [tot]
theorem tot_append (l r : List Ob) : tot (l ++ r) = tot l + tot r := by simp [tot]
theorem flat8_length (vs : List Int) : (vs.flatMap w8).length = 8 * vs.length := by
  induction vs with
  | nil => rfl
  | cons x l ih => simp [w8_length, ih]; omega
theorem enc_length (x : Ob) : (enc x).length = x.size := by
  simp only [enc, List.length_append, w8_length, flat8_length, Ob.size]
theorem encs_length (l : List Ob) : (encs l).length = tot l := by
  induction l with
  | nil => rfl
  | cons x l ih => rw [tot_cons, ← ih, ← enc_length]; simp [encs]
theorem encs_append (l r : List Ob) : encs (l ++ r) = encs l ++ encs r := by simp [encs]
theorem encs_cons (x : Ob) (l : List Ob) : encs (x :: l) = enc x ++ encs l := by simp [encs]
theorem size_pos (x : Ob) : 16 ≤ x.size := by unfold Ob.size; omega
theorem findOb_split : ∀ (l : List Ob) (off : Nat) (a : Int) (x : Ob), findOb off l a = some x → ∃ l1 l2, l = l1 ++ x :: l2 ∧ a = ((off + tot l1 + 8 : Nat) : Int)
  | [], _, _, _, h => by simp [findOb] at h
  | y :: l, off, a, x, h => by
    unfold findOb at h
    split at h
    · rename_i e
      obtain rfl : y = x := by simpa using h
      exact ⟨[], l, rfl, by rw [e, tot_nil]; omega⟩
    · obtain ⟨l1, l2, e1, e2⟩ := findOb_split l _ a x h
      exact ⟨y :: l1, l2, by rw [e1]; rfl, by rw [e2, tot_cons]; omega⟩
theorem findOb_lt : ∀ (l : List Ob) (off : Nat) (a : Int), a < off + 8 → findOb off l a = none
  | [], _, _, _ => rfl
  | y :: l, off, a, h => by
    unfold findOb
    rw [if_neg (by omega)]
    exact findOb_lt l _ a (by have := size_pos y; omega)
theorem findOb_at (l1 : List Ob) (x : Ob) (l2 : List Ob) (off : Nat) : findOb off (l1 ++ x :: l2) ((off + tot l1 + 8 : Nat) : Int) = some x := by
  induction l1 generalizing off with
  | nil => simp [findOb, tot_nil]
  | cons y l ih =>
    have := size_pos y
    simp only [List.cons_append, findOb, tot_cons]
    rw [if_neg (by omega)]
    have := ih (off + y.size)
    rw [show off + y.size + tot l + 8 = off + (y.size + tot l) + 8 from by omega] at this
    exact this
theorem findOb_append (l : List Ob) (y : Ob) (off : Nat) (a : Int) : findOb off (l ++ [y]) a = if a = ((off + tot l + 8 : Nat) : Int) then some y else findOb off l a := by
  induction l generalizing off with
  | nil => simp [findOb, tot_nil]; rfl
  | cons x l ih =>
    have := size_pos x
    simp only [List.cons_append, findOb, tot_cons, ih]
    by_cases h1 : a = off + 8
    · rw [if_pos h1, if_pos h1, if_neg (by omega)]
    · rw [if_neg h1, if_neg h1, show off + x.size + tot l + 8 = off + (x.size + tot l) + 8 from by omega]
theorem addrs_length (l : List Ob) (off : Nat) : (addrs off l).length = l.length := by
  induction l generalizing off with
  | nil => rfl
  | cons x l ih => simp [addrs, ih]
theorem addrs_append (l : List Ob) (y : Ob) (off : Nat) : addrs off (l ++ [y]) = addrs off l ++ [((off + tot l + 8 : Nat) : Int)] := by
  induction l generalizing off with
  | nil => simp [addrs, tot_nil]
  | cons x l ih =>
    simp only [List.cons_append, addrs, tot_cons, ih]
    rw [show off + x.size + tot l + 8 = off + (x.size + tot l) + 8 from by omega]
theorem mem_addrs (l : List Ob) (off : Nat) (a : Int) : a ∈ addrs off l ↔ (findOb off l a).isSome = true := by
  induction l generalizing off with
  | nil => simp [addrs, findOb]
  | cons x l ih =>
    simp only [addrs, List.mem_cons, findOb, ih]
    by_cases h : a = off + 8 <;> simp [h]
/-- The words of an object among the bytes. -/
theorem encs_at (l1 : List Ob) (x : Ob) (l2 : List Ob) : encs (l1 ++ x :: l2) = encs l1 ++ (w8 x.kind ++ (w8 x.vs.length ++ (x.vs.flatMap w8 ++ encs l2))) := by
  rw [encs_append, encs_cons]; simp [enc, List.append_assoc]
theorem encs_kind (l1 : List Ob) (x : Ob) (l2 : List Ob) : ((encs (l1 ++ x :: l2)).drop (tot l1)).take 8 = w8 x.kind := by
  rw [encs_at, ← encs_length, List.drop_left, List.take_append_of_le_length (by simp [w8_length]), List.take_of_length_le (by simp [w8_length])]
theorem encs_slots (l1 : List Ob) (x : Ob) (l2 : List Ob) : ((encs (l1 ++ x :: l2)).drop (tot l1 + 8)).take 8 = w8 x.vs.length := by
  rw [encs_at, ← List.drop_drop, ← encs_length, List.drop_left, List.drop_left' (w8_length _), List.take_append_of_le_length (by simp [w8_length]), List.take_of_length_le (by simp [w8_length])]
theorem flat8_at (vs : List Int) (k : Nat) (h : k < vs.length) (r : List Int) : ((vs.flatMap w8 ++ r).drop (8 * k)).take 8 = w8 vs[k] := by
  induction vs generalizing k with
  | nil => simp at h
  | cons v vs ih =>
    cases k with
    | zero => rw [List.flatMap_cons, List.append_assoc, Nat.mul_zero, List.drop_zero, List.take_append_of_le_length (by simp [w8_length]), List.take_of_length_le (by simp [w8_length])]; rfl
    | succ k =>
      have := ih k (by simpa using h)
      rw [List.flatMap_cons, List.append_assoc, show 8 * (k + 1) = 8 + 8 * k from by omega, ← List.drop_drop, List.drop_left' (w8_length _), this]
      simp
theorem encs_slot (l1 : List Ob) (x : Ob) (l2 : List Ob) (k : Nat) (h : k < x.vs.length) : ((encs (l1 ++ x :: l2)).drop (tot l1 + 16 + 8 * k)).take 8 = w8 x.vs[k] := by
  rw [encs_at, ← encs_length, Nat.add_assoc, ← List.drop_drop, List.drop_left, ← List.append_assoc, ← List.drop_drop, List.drop_left' (by simp [w8_length]), flat8_at x.vs k h]

/-! ### walks -/
theorem i64k : Try.prog.underlying 2 = some (.int .i64) := by kernel_rfl
theorem und87 : Try.prog.underlying 87 = some (.map 2 3) := by kernel_rfl
theorem und90 : Try.prog.underlying 90 = some (.map 2 2) := by kernel_rfl
theorem zero3 (w : World) : (zeroValue 3).run Try.prog w = .ok (.int .i64 0) w := by kernel_rfl
theorem zero2 (w : World) : (zeroValue 2).run Try.prog w = .ok (.int .i64 0) w := by kernel_rfl
/-- 'number' of eight bytes of a row that is owned. -/
theorem number_row (p o : Nat) (a : Int) (vb : Value) (bs : List Int) (n : Int) (w : World)
    (hb : w.cell? ⟨p, o, none⟩ = some vb) (hown : w.ownsRow 0 5 1 vb bs.length (bs.map (Value.int .u8))) (ha : 0 ≤ a) (hn : I64 n)
    (h8 : (bs.drop a.toNat).take 8 = w8 n) :
    Calls Try.prog 68 #[.pointer (some ⟨p, o, none⟩), .int .i64 a] w fun e w' => e = .returned (.int .i64 n) ∧ w' = w := by
  obtain ⟨at', rfl⟩ := Int.eq_ofNat_of_zero_le ha
  rw [Int.toNat_natCast] at h8
  have hlen : at' + 8 ≤ bs.length := by
    have := congrArg List.length h8
    simp [w8_length] at this
    omega
  rcases hown.2 with ⟨_, h0⟩ | ⟨g, cap, cur, rfl, _, hg, hnc, hcm, _⟩
  · omega
  · refine (number_any p o g at' bs.length cap (w8 n) w hb (w8_length n) (w8_range n) ?_ hlen hnc (by simpa [maxLen] using hcm)).mono ?_
    · intro i hi
      have h1 := hown.cellAt (at' + i) (by omega)
      rw [h1, ← h8, List.getD_eq_getElem?_getD, List.getElem?_take_of_lt hi, List.getElem?_drop, List.getElem?_map, List.getElem?_eq_getElem (by omega)]
      rfl
    · rintro e w' ⟨rfl, rfl⟩
      exact ⟨by rw [num_w8 n hn], rfl⟩
/-- What a half says: its bytes, and where its objects begin. -/
structure HalfOf (w : World) (vb : Value) (mo : Option Nat) (l : List Ob) : Prop where
  bytes : w.ownsRow 0 5 1 vb (encs l).length ((encs l).map (Value.int .u8))
  begins : ∃ f, OMap w mo f ∧ ∀ k, (f k).isSome = (findOb 0 l k).isSome
  ok : ∀ x ∈ l, x.ok
  small : tot l ≤ 1048576
set_option maxHeartbeats 400000 in
theorem is_any (p o : Nat) (a : Int) (vb : Value) (mo : Option Nat) (l : List Ob) (w : World) (hc : w.cell? ⟨p, o + 2, none⟩ = some (.map mo)) (hh : HalfOf w vb mo l) :
    Calls Try.prog 66 #[.pointer (some ⟨p, o, none⟩), .int .i64 a] w fun e w' => e = .returned (.bool (findOb 0 l a).isSome) ∧ w' = w := by
  obtain ⟨f, hm, hf⟩ := hh.begins
  have hl := hm.look und87 i64k zero3 a
  rw [hf a] at hl
  clear hm hf hh
  go_enter Try.func66, Try.ntmps66
  go_wp2
  go_ret
  exact ⟨rfl, rfl⟩
theorem HalfOf.word {w : World} {vb : Value} {mo : Option Nat} {l : List Ob} (hh : HalfOf w vb mo l) {x : Ob} {a : Int} (hx : findOb 0 l a = some x) :
    8 ≤ a ∧ a ≤ 1048576 ∧ a + 8 + 8 * x.vs.length ≤ tot l ∧ x.ok ∧ ((encs l).drop (a - 8).toNat).take 8 = w8 x.kind ∧ ((encs l).drop a.toNat).take 8 = w8 x.vs.length ∧
      ∀ k (h : k < x.vs.length), ((encs l).drop (a + 8 + 8 * k).toNat).take 8 = w8 x.vs[k] := by
  obtain ⟨l1, l2, rfl, rfl⟩ := findOb_split _ _ _ _ hx
  have hs := hh.small
  rw [tot_append, tot_cons] at hs
  have hz : x.size = 16 + 8 * x.vs.length := rfl
  refine ⟨by omega, by omega, by rw [tot_append, tot_cons]; omega, hh.ok x (by simp), ?_, ?_, fun k h => ?_⟩
  · rw [show (((0 + tot l1 + 8 : Nat) : Int) - 8).toNat = tot l1 from by omega]; exact encs_kind l1 x l2
  · rw [show (((0 + tot l1 + 8 : Nat) : Int)).toNat = tot l1 + 8 from by omega]; exact encs_slots l1 x l2
  · rw [show (((0 + tot l1 + 8 : Nat) : Int) + 8 + 8 * k).toNat = tot l1 + 16 + 8 * k from by omega]; exact encs_slot l1 x l2 k h
set_option maxHeartbeats 400000 in
theorem kind_any (p o : Nat) (a : Int) (vb : Value) (mo : Option Nat) (l : List Ob) (x : Ob) (w : World) (hc : w.cell? ⟨p, o, none⟩ = some vb) (hh : HalfOf w vb mo l) (hx : findOb 0 l a = some x) :
    Calls Try.prog 69 #[.pointer (some ⟨p, o, none⟩), .int .i64 a] w fun e w' => e = .returned (.int .i64 x.kind) ∧ w' = w := by
  obtain ⟨a1, a2, a3, hok, hk, _, _⟩ := hh.word hx
  have H := Lib.hid (number_row p o (a - 8) vb _ x.kind w hc hh.bytes (by omega) hok.1 hk)
  have hk1 := hok.1.1
  have hk2 := hok.1.2
  clear hh hx hc hk hok
  go_enter Try.func69, Try.ntmps69
  go_wp2_with fail
  refine H.out.mono ?_
  rintro e w' ⟨rfl, rfl⟩
  go_wp2
  go_ret
  exact ⟨rfl, rfl⟩
set_option maxHeartbeats 400000 in
theorem slots_any (p o : Nat) (a : Int) (vb : Value) (mo : Option Nat) (l : List Ob) (x : Ob) (w : World) (hc : w.cell? ⟨p, o, none⟩ = some vb) (hh : HalfOf w vb mo l) (hx : findOb 0 l a = some x) :
    Calls Try.prog 67 #[.pointer (some ⟨p, o, none⟩), .int .i64 a] w fun e w' => e = .returned (.int .i64 x.vs.length) ∧ w' = w := by
  obtain ⟨a1, a2, a3, hok, _, hk, _⟩ := hh.word hx
  have hk2 := hok.2.1
  have H := Lib.hid (number_row p o a vb _ x.vs.length w hc hh.bytes (by omega) ⟨by omega, by omega⟩ hk)
  clear hh hx hc hk hok
  go_enter Try.func67, Try.ntmps67
  go_wp2_with fail
  refine H.out.mono ?_
  rintro e w' ⟨rfl, rfl⟩
  go_wp2
  go_ret
  exact ⟨rfl, rfl⟩
/-- 'place'. -/
theorem place_any (a s : Int) (w : World) (ha : 0 ≤ a ∧ a ≤ 1048576) (hs : 0 ≤ s ∧ s ≤ 1048576) :
    Calls Try.prog 65 #[.int .i64 a, .int .i64 s] w fun e w' => e = .returned (.int .i64 (a + 8 + 8 * s)) ∧ w' = w := by
  obtain ⟨h1, h2⟩ := ha
  obtain ⟨h3, h4⟩ := hs
  go_enter Try.func65, Try.ntmps65
  go_wp2
  go_ret
  exact ⟨rfl, rfl⟩
end Go.Proofs.Ytniifefmjdjebaa
