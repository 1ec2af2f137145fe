/- Walks: small helpers of the laws of chapter 16. · Walks: table. · Walks: the document's Refs; good; gc.Live. · Walks: gc.Live. -/
import Derived.Test.YtniifefmjdjebaaKH
import Derived.Test.YtniifefmjdjebaaKB
import Derived.Test.YtniifefmjdjebaaKF
import Derived.Deep.AppendLies
import Derived.Laws.AppendOwnNone
import Derived.Lib.MinMax
namespace Go.Proofs.Ytniifefmjdjebaa
open Go.RowKit
set_option linter.unusedVariables false
set_option linter.unusedSimpArgs false
/-- A row of numbers that is owned reads as numbers. -/
theorem row_ints {w : World} {base e : Nat} {a : Option Addr} {n c : Nat} {xs : List Int} (h : w.ownsRow base e 1 (.slice a n c) n (xs.map (Value.int .i64))) (hI : ∀ x ∈ xs, I64 x) : IntsIn w a n (fun j => xs[j]?.getD 0) := by
  have hl : xs.length = n := by simpa using h.1
  refine ⟨?_, fun h0 => ?_, fun i hi => ?_⟩
  · rcases h.2 with ⟨_, h0⟩ | ⟨g, cap, cur, h1, _, h2, h3, h4, _⟩
    · omega
    · unfold maxLen at h4; omega
  · obtain ⟨g, cap, cur, h1, _⟩ := row_addr h h0
    simp only [Value.slice.injEq, true_and] at h1
    obtain ⟨rfl, rfl⟩ := h1
    exact ⟨g, 0, rfl, fun i hi => by rw [Nat.zero_add]; exact row_int h hi⟩
  · have : i < xs.length := by omega
    show I64 (xs[i]?.getD 0)
    rw [List.getElem?_eq_getElem this]
    exact hI _ (List.getElem_mem this)
theorem IntsIn.take {w : World} {a : Option Addr} {n m : Nat} {z : Nat → Int} (h : IntsIn w a n z) (hm : m ≤ n) : IntsIn w a m z :=
  ⟨by have := h.small; omega, fun h0 => by obtain ⟨b, off, e, hc⟩ := h.cells (by omega); exact ⟨b, off, e, fun i hi => hc i (by omega)⟩, fun i hi => h.fit i (by omega)⟩
theorem tmod_emod (a n : Int) (hn : 0 < n) : a % n = if Int.tmod a n < 0 then Int.tmod a n + n else Int.tmod a n := by
  have h1 : Int.tmod a n + n * Int.tdiv a n = a := Int.tmod_add_mul_tdiv a n
  have h2 : a % n = Int.tmod a n % n := by
    conv => lhs; rw [← h1]
    exact Int.add_mul_emod_self_left _ _ _
  have h3 : Int.tmod a n < n := Int.tmod_lt_of_pos a hn
  have h4 : -n < Int.tmod a n := by
    have := Int.tmod_lt_of_pos (-a) hn
    rw [Int.neg_tmod] at this; omega
  rw [h2]
  split
  · rw [← Int.add_emod_right, Int.emod_eq_of_lt (by omega) (by omega)]
  · exact Int.emod_eq_of_lt (by omega) (by omega)
set_option maxHeartbeats 400000 in
theorem in_any (a n : Int) (w : World) (hn : 0 < n) (hn2 : n ≤ 1048576) (ha : I64 a) :
    Calls Try.prog 46 #[.int .i64 a, .int .i64 n] w fun e w' => e = .returned (.int .i64 (a % n)) ∧ w' = w := by
  have hm := tmod_emod a n hn
  have h3 : Int.tmod a n < n := Int.tmod_lt_of_pos a hn
  have h4 : -n < Int.tmod a n := by
    have := Int.tmod_lt_of_pos (-a) hn
    rw [Int.neg_tmod] at this; omega
  obtain ⟨a1, a2⟩ := ha
  have HM := Lib.hid hm
  clear hm
  have hn0 : n ≠ 0 := by omega
  have hnb : (n == 0) = false := by simpa using hn0
  by_cases h0 : Int.tmod a n < 0
  · go_enter Try.func46, Try.ntmps46
    go_wp2
    go_ret
    exact ⟨by rw [HM.out, if_pos h0]; rfl, rfl⟩
  · go_enter Try.func46, Try.ntmps46
    go_wp2
    go_ret
    exact ⟨by rw [HM.out, if_neg (by omega)]; rfl, rfl⟩
set_option maxHeartbeats 400000 in
theorem whole_any (p : Nat) (a : Int) (S : Nat → Prop) (s : AS) (w : World) (h : IsArena w p S s) :
    Calls Try.prog 52 #[.pointer (some ⟨p, 0, none⟩), .int .i64 a] w fun e w' => e = .returned (.bool (isOb s a)) ∧ w' = w := by
  have H := Lib.hid h; clear h
  cases hx : findOb 0 s.used a with
  | none =>
    have HX := Lib.hid hx
    have HO := Lib.hid (show isOb s a = false from by unfold isOb; rw [hx]; rfl)
    clear hx
    go_enter Try.func52, Try.ntmps52
    go_wp2_with fail
    refine (Kind_any p a S s _ H.out).mono ?_
    rw [HX.out, show kindOf none = 0 from rfl, show errI none = 57 from rfl]
    rintro e w1 ⟨rfl, rfl⟩
    go_wp2
    go_ret
    exact ⟨by rw [HO.out]; rfl, rfl⟩
  | some x =>
    have HX := Lib.hid hx
    have HO := Lib.hid (show isOb s a = true from by unfold isOb; rw [hx]; rfl)
    clear hx
    go_enter Try.func52, Try.ntmps52
    go_wp2_with fail
    refine (Kind_any p a S s _ H.out).mono ?_
    rw [HX.out, show kindOf (some x) = x.kind from rfl, show errI (some x) = 0 from rfl]
    rintro e w1 ⟨rfl, rfl⟩
    go_wp2
    go_ret
    exact ⟨by rw [HO.out]; rfl, rfl⟩
/-- Where a number stands first in a row of n numbers. -/
def firstAt (z : Nat → Int) (a : Int) : Nat → Nat → Option Nat
  | _, 0 => none
  | i, n + 1 => if z i = a then some i else firstAt z a (i + 1) n
/-- Does it stand among the first n? -/
def standsIn (n : Nat) (z : Nat → Int) (a : Int) : Option Nat := firstAt z a 0 n
theorem firstAt_none (z : Nat → Int) (a : Int) : ∀ (n i : Nat), (∀ j, i ≤ j → j < i + n → z j ≠ a) → firstAt z a i n = none
  | 0, _, _ => rfl
  | n + 1, i, h => by
    unfold firstAt
    rw [if_neg (h i (Nat.le_refl _) (by omega))]
    exact firstAt_none z a n (i + 1) (fun j h1 h2 => h j (by omega) (by omega))
theorem firstAt_some (z : Nat → Int) (a : Int) : ∀ (n i k : Nat), i ≤ k → k < i + n → z k = a → (∀ j, i ≤ j → j < k → z j ≠ a) → firstAt z a i n = some k
  | 0, i, k, h1, h2, _, _ => by omega
  | n + 1, i, k, h1, h2, h3, h4 => by
    unfold firstAt
    by_cases e : i = k
    · subst e; rw [if_pos h3]
    · rw [if_neg (h4 i (Nat.le_refl _) (by omega))]
      exact firstAt_some z a n (i + 1) k (by omega) (by omega) h3 (fun j h5 h6 => h4 j (by omega) h6)
/-- Where a number goes: what stands at its place in another row; -1: nowhere. -/
def goesTo (n : Nat) (z1 z2 : Nat → Int) (a : Int) : Int := match standsIn n z1 a with | some k => z2 k | none => -1
/-- Its place; -1: none. -/
def placeOf (n : Nat) (z : Nat → Int) (a : Int) : Int := match standsIn n z a with | some k => (k : Int) | none => -1
set_option maxHeartbeats 400000 in
theorem to_any (a1 a2 : Option Addr) (n c1 m c2 : Nat) (z1 z2 : Nat → Int) (a : Int) (w : World) (h1 : IntsIn w a1 n z1) (h2 : IntsIn w a2 m z2) (hm : n ≤ m) :
    Calls Try.prog 53 #[.slice a1 n c1, .slice a2 m c2, .int .i64 a] w fun e w' => e = .returned (.int .i64 (goesTo n z1 z2 a)) ∧ w' = w := by
  have hn := h1.small
  have hm2 := h2.small
  have H := Lib.hid (And.intro h1 h2); clear h1 h2
  go_enter Try.func53, Try.ntmps53
  go_wp2
  go_loop [7] (fun i => ∃ k : Nat, k ≤ n ∧ i = .int .i64 k ∧ ∀ j, j < k → z1 j ≠ a) (fun i => (n - intOf i).toNat)
  case atStart => exact ⟨0, by omega, rfl, fun j hj => by omega⟩
  case round =>
    obtain ⟨k, hk, rfl, hne⟩ := hrel
    have HNe := Lib.hid hne; clear hne
    by_cases hlt : k < n
    · obtain ⟨b1, o1, rfl, hc1⟩ := H.out.1.cells (by omega)
      have hcell := hc1 k hlt
      obtain ⟨b2, o2, rfl, hc2⟩ := H.out.2.cells (by omega)
      have hcell2 := hc2 k (by omega)
      clear hc1 hc2
      by_cases hda : z1 k = a
      · have HS := Lib.hid (show standsIn n z1 a = some k from firstAt_some z1 a n 0 k (by omega) (by omega) hda (fun j _ hj => HNe.out j hj))
        have hb : (z1 k == a) = true := by simpa using hda
        clear hda
        go_wp2
        go_ret
        exact ⟨by rw [goesTo, HS.out]; rfl, rfl⟩
      · have hb : (z1 k == a) = false := by simpa using hda
        have HD := Lib.hid hda
        clear hda
        go_wp2
        go_round
        case rel => exact ⟨k + 1, by omega, by go_num, fun j hj => by
          by_cases hjk : j = k
          · subst hjk; exact HD.out
          · exact HNe.out j (by omega)⟩
        case measure => simp [intOf]; omega
    · have HS := Lib.hid (show standsIn n z1 a = none from firstAt_none z1 a n 0 (fun j _ hj => HNe.out j (by omega)))
      go_wp2
      go_ret
      exact ⟨by rw [goesTo, HS.out]; rfl, rfl⟩
set_option maxHeartbeats 400000 in
theorem moved_any (a1 : Option Addr) (n c1 : Nat) (z1 : Nat → Int) (a : Int) (w : World) (h1 : IntsIn w a1 n z1) :
    Calls Try.prog 59 #[.slice a1 n c1, .int .i64 a] w fun e w' => e = .returned (.bool (standsIn n z1 a).isSome) ∧ w' = w := by
  have hn := h1.small
  have H := Lib.hid h1; clear h1
  go_enter Try.func59, Try.ntmps59
  go_wp2
  go_loop [5] (fun i => ∃ k : Nat, k ≤ n ∧ i = .int .i64 k ∧ ∀ j, j < k → z1 j ≠ a) (fun i => (n - intOf i).toNat)
  case atStart => exact ⟨0, by omega, rfl, fun j hj => by omega⟩
  case round =>
    obtain ⟨k, hk, rfl, hne⟩ := hrel
    have HNe := Lib.hid hne; clear hne
    by_cases hlt : k < n
    · obtain ⟨b1, o1, rfl, hc1⟩ := H.out.cells (by omega)
      have hcell := hc1 k hlt
      clear hc1
      by_cases hda : z1 k = a
      · have HS := Lib.hid (show standsIn n z1 a = some k from firstAt_some z1 a n 0 k (by omega) (by omega) hda (fun j _ hj => HNe.out j hj))
        have hb : (z1 k == a) = true := by simpa using hda
        clear hda
        go_wp2
        go_ret
        exact ⟨by rw [HS.out]; rfl, rfl⟩
      · have hb : (z1 k == a) = false := by simpa using hda
        have HD := Lib.hid hda
        clear hda
        go_wp2
        go_round
        case rel => exact ⟨k + 1, by omega, by go_num, fun j hj => by
          by_cases hjk : j = k
          · subst hjk; exact HD.out
          · exact HNe.out j (by omega)⟩
        case measure => simp [intOf]; omega
    · have HS := Lib.hid (show standsIn n z1 a = none from firstAt_none z1 a n 0 (fun j _ hj => HNe.out j (by omega)))
      go_wp2
      go_ret
      exact ⟨by rw [HS.out]; rfl, rfl⟩
set_option maxHeartbeats 400000 in
theorem has_any (a1 : Option Addr) (n c1 : Nat) (z1 : Nat → Int) (a : Int) (w : World) (h1 : IntsIn w a1 n z1) :
    Calls Try.prog 80 #[.slice a1 n c1, .int .i64 a] w fun e w' => e = .returned (.bool (standsIn n z1 a).isSome) ∧ w' = w := by
  have hn := h1.small
  have H := Lib.hid h1; clear h1
  go_enter Try.func80, Try.ntmps80
  go_wp2
  go_loop [5] (fun i => ∃ k : Nat, k ≤ n ∧ i = .int .i64 k ∧ ∀ j, j < k → z1 j ≠ a) (fun i => (n - intOf i).toNat)
  case atStart => exact ⟨0, by omega, rfl, fun j hj => by omega⟩
  case round =>
    obtain ⟨k, hk, rfl, hne⟩ := hrel
    have HNe := Lib.hid hne; clear hne
    by_cases hlt : k < n
    · obtain ⟨b1, o1, rfl, hc1⟩ := H.out.cells (by omega)
      have hcell := hc1 k hlt
      clear hc1
      by_cases hda : z1 k = a
      · have HS := Lib.hid (show standsIn n z1 a = some k from firstAt_some z1 a n 0 k (by omega) (by omega) hda (fun j _ hj => HNe.out j hj))
        have hb : (z1 k == a) = true := by simpa using hda
        clear hda
        go_wp2
        go_ret
        exact ⟨by rw [HS.out]; rfl, rfl⟩
      · have hb : (z1 k == a) = false := by simpa using hda
        have HD := Lib.hid hda
        clear hda
        go_wp2
        go_round
        case rel => exact ⟨k + 1, by omega, by go_num, fun j hj => by
          by_cases hjk : j = k
          · subst hjk; exact HD.out
          · exact HNe.out j (by omega)⟩
        case measure => simp [intOf]; omega
    · have HS := Lib.hid (show standsIn n z1 a = none from firstAt_none z1 a n 0 (fun j _ hj => HNe.out j (by omega)))
      go_wp2
      go_ret
      exact ⟨by rw [HS.out]; rfl, rfl⟩
set_option maxHeartbeats 400000 in
theorem place_at_any (a1 : Option Addr) (n c1 : Nat) (z1 : Nat → Int) (a : Int) (w : World) (h1 : IntsIn w a1 n z1) :
    Calls Try.prog 81 #[.slice a1 n c1, .int .i64 a] w fun e w' => e = .returned (.int .i64 (placeOf n z1 a)) ∧ w' = w := by
  have hn := h1.small
  have H := Lib.hid h1; clear h1
  go_enter Try.func81, Try.ntmps81
  go_wp2
  go_loop [5] (fun i => ∃ k : Nat, k ≤ n ∧ i = .int .i64 k ∧ ∀ j, j < k → z1 j ≠ a) (fun i => (n - intOf i).toNat)
  case atStart => exact ⟨0, by omega, rfl, fun j hj => by omega⟩
  case round =>
    obtain ⟨k, hk, rfl, hne⟩ := hrel
    have HNe := Lib.hid hne; clear hne
    by_cases hlt : k < n
    · obtain ⟨b1, o1, rfl, hc1⟩ := H.out.cells (by omega)
      have hcell := hc1 k hlt
      clear hc1
      by_cases hda : z1 k = a
      · have HS := Lib.hid (show standsIn n z1 a = some k from firstAt_some z1 a n 0 k (by omega) (by omega) hda (fun j _ hj => HNe.out j hj))
        have hb : (z1 k == a) = true := by simpa using hda
        clear hda
        go_wp2
        go_ret
        exact ⟨by rw [placeOf, HS.out]; rfl, rfl⟩
      · have hb : (z1 k == a) = false := by simpa using hda
        have HD := Lib.hid hda
        clear hda
        go_wp2
        go_round
        case rel => exact ⟨k + 1, by omega, by go_num, fun j hj => by
          by_cases hjk : j = k
          · subst hjk; exact HD.out
          · exact HNe.out j (by omega)⟩
        case measure => simp [intOf]; omega
    · have HS := Lib.hid (show standsIn n z1 a = none from firstAt_none z1 a n 0 (fun j _ hj => HNe.out j (by omega)))
      go_wp2
      go_ret
      exact ⟨by rw [placeOf, HS.out]; rfl, rfl⟩
end Go.Proofs.Ytniifefmjdjebaa
namespace Go.Proofs.Ytniifefmjdjebaa
open Go.RowKit
set_option linter.unusedVariables false
set_option linter.unusedSimpArgs false
/-- append onto a row that is owned, of whatever is read, as a step of a region that draws. -/
theorem step_append_any {P : Program} {w : World} {ops : Array Oper} {o : Oper} {a : Act} {K : Act → World → Prop} {Q : Exit → Act → World → Prop} {E : Prop} (hgd : o.guard = none) (s x : Operand) (t : TypeId)
    (ho : o.op = .call { callee := .builtin .append, args := #[s, x], argTypes := #[t, t] })
    (e : TypeId) (i : TypeInfo) (z : Value) (bytes : Nat) (ht : P.underlying t = some (.slice e)) (hi : P.info? e = some i) (hz : i.zero = some z)
    (hsize : i.size = 1) (hby : i.bytes = bytes) (hzs : z.cells.size = 1)
    (v : Value) (n : Nat) (xs : List Value) (hs : a.eval s = v) (hown : w.ownsRow 0 e 1 v n xs)
    (ao : Option Addr) (m c : Nat) (news : List Value) (hx : a.eval x = .slice ao m c) (hno : ao = none → m = 0 ∧ c = 0) (hl : news.length = m) (hnews : ∀ ad, ao = some ad → ∀ j u, news[j]? = some u → w.cell? (ad.add j) = some u) (h1 : ∀ u ∈ news, u.oneCell' = true)
    (h63 : n + m ≤ maxLen) (hbytes : (n + m) * bytes ≤ 140737488355328)
    (h : ∀ av cv w', w'.ownsRow 0 e 1 (.slice av (n + m) cv) (n + m) (xs ++ news) → w.grownBy w' v.ownBlock → ((Value.slice av (n + m) cv).ownBlock = v.ownBlock ∨ (Value.slice av (n + m) cv).ownBlock = some w.heap.size) → K (a.put o.dst (.slice av (n + m) cv)) w') :
    if Region.wanted o (yielded ops a.tmps) = true then Oper.wp P o a w K Q else E := by
  have hw : Region.wanted o (yielded ops a.tmps) = true := by simp [Region.wanted, hgd]
  rw [if_pos hw]
  cases ao with
  | none =>
    obtain ⟨rfl, rfl⟩ := hno rfl
    obtain rfl : news = [] := List.eq_nil_of_length_eq_zero hl
    have hrun := run_append_owned_none (P := P) (w := w) 0 t o.type e i 1 ht hi v n xs hown
    obtain ⟨av, cv, rfl⟩ := row_form hown
    unfold Oper.wp
    simp [execOp, ho, resolve, invoke, builtin, hs, hx, hrun, Result.andThen]
    exact h av cv w (by simpa using hown) (Fr.refl (fun _ => False) w |>.grown (fun _ _ h => h.elim)) (.inl rfl)
  | some ad =>
    obtain ⟨v', w', hrun, h2, h3, _, h5⟩ := run_append_own_at (P := P) (w := w) 0 t o.type e i z 1 bytes ht hi hz hsize hby hzs (by decide) v n xs hown ad m c news (by simpa using hl) (hnews ad rfl) h1 h63 hbytes (Nat.zero_le _)
    obtain ⟨av, cv, rfl⟩ := row_form h2
    unfold Oper.wp
    simp [execOp, ho, resolve, invoke, builtin, hs, hx, hrun, Result.andThen]
    exact h av cv w' h2 h3 h5

/-- A table that came in: its rows' values, their numbers. -/
structure TabIn (w : World) (a : Option Addr) (n : Nat) (A : Nat → Option Addr) (L C : Nat → Nat) (z : Nat → Nat → Int) : Prop where
  small : n ≤ 9223372036854775807
  cells : 0 < n → ∃ b off, a = some ⟨b, off, none⟩ ∧ ∀ i, i < n → w.cell? ⟨b, off + i, none⟩ = some (.slice (A i) (L i) (C i))
  rows : ∀ i, i < n → L i ≤ C i ∧ C i ≤ 9223372036854775807 ∧ IntsIn w (A i) (L i) (z i) ∧ (A i = none → C i = 0)
theorem TabIn.keep {w w' : World} {a : Option Addr} {n : Nat} {A : Nat → Option Addr} {L C : Nat → Nat} {z : Nat → Nat → Int} (h : TabIn w a n A L C z) (hf : Fr (fun _ => False) w w') : TabIn w' a n A L C z :=
  ⟨h.small, fun h0 => by obtain ⟨b, off, e, hc⟩ := h.cells h0; exact ⟨b, off, e, fun i hi => hf.cell (hc i hi) id⟩, fun i hi => ⟨(h.rows i hi).1, (h.rows i hi).2.1, (h.rows i hi).2.2.1.keep hf, (h.rows i hi).2.2.2⟩⟩
/-- A row's first numbers, 30 at most. -/
def tabRow (L : Nat → Nat) (z : Nat → Nat → Int) (i : Nat) : List Int := (List.range (min (L i) 30)).map (z i)
/-- The first k rows. -/
def tabK (L : Nat → Nat) (z : Nat → Nat → Int) (k : Nat) : List (List Int) := (List.range k).map (tabRow L z)
/-- What 'table' makes of one. -/
def tabT (n : Nat) (L : Nat → Nat) (z : Nat → Nat → Int) : List (List Int) := tabK L z (min n 20)
theorem tabK_succ (L : Nat → Nat) (z : Nat → Nat → Int) (k : Nat) : tabK L z (k + 1) = tabK L z k ++ [tabRow L z k] := by unfold tabK; rw [List.range_succ, List.map_append]; rfl
theorem tabK_length (L : Nat → Nat) (z : Nat → Nat → Int) (k : Nat) : (tabK L z k).length = k := by simp [tabK]
theorem tabRow_length (L : Nat → Nat) (z : Nat → Nat → Int) (i : Nat) : (tabRow L z i).length = min (L i) 30 := by simp [tabRow]
/-- A table that grows by a row of its own. -/
theorem TabIs.grown {w w' : World} {B : Nat} {v v' : Value} {T : List (List Int)} {rs : List Value} {r : Value} {xs : List Int} (h : TabIs w v T (fun k => B ≤ k) rs) (hr : w.ownsRow 0 3 1 r xs.length (xs.map (Value.int .i64))) (hI : ∀ n ∈ xs, I64 n) (hrB : ∀ k, r.ownBlock = some k → B ≤ k)
    (h1 : w'.ownsRow 0 22 1 v' (T.length + 1) (rs ++ [r])) (hf : Fr (fun k => v.ownBlock = some k) w w') (hvB : ∀ k, v'.ownBlock = some k → B ≤ k) (hl : T.length < 20) (hx : xs.length ≤ 30) : TabIs w' v' (T ++ [xs]) (fun k => B ≤ k) (rs ++ [r]) := by
  have hne : ∀ {u : Value} {ys : List Int} {n : Nat}, w.ownsRow 0 3 1 u n (ys.map (Value.int .i64)) → ∀ k, u.ownBlock = some k → ¬ v.ownBlock = some k := fun hu k hk e => by
    obtain ⟨c1, h2⟩ := row_cells hu hk
    obtain ⟨c2, h3⟩ := row_cells h.row e
    exact absurd (blk_ty h2 h3) (by decide)
  refine ⟨by simpa using h1, fun i u ys hu hy => ?_, fun k hk => hvB k hk, fun u hu k hk => ?_, ?_⟩
  · by_cases hi : i < rs.length
    · rw [List.getElem?_append_left hi] at hu
      rw [List.getElem?_append_left (by rw [← h.len]; exact hi)] at hy
      obtain ⟨q1, q2⟩ := h.rows i u ys hu hy
      exact ⟨hf.row q1 (hne q1), q2⟩
    · have hi2 : i < (rs ++ [r]).length := (List.getElem?_eq_some_iff.1 hu).1
      obtain rfl : i = rs.length := by simp at hi2; omega
      rw [List.getElem?_append_right (Nat.le_refl _), Nat.sub_self] at hu
      rw [h.len, List.getElem?_append_right (Nat.le_refl _), Nat.sub_self] at hy
      simp at hu hy
      subst hu hy
      exact ⟨hf.row hr (hne hr), hI⟩
  · rcases List.mem_append.1 hu with hu | hu
    · exact h.inR u hu k hk
    · simp at hu; subst hu; exact hrB k hk
  · refine ⟨by simp; omega, fun ys hy => ?_⟩
    rcases List.mem_append.1 hy with hy | hy
    · exact h.small.2 ys hy
    · simp at hy; subst hy; exact hx
theorem info22 : (Try.prog.info? 22).map (fun i => (i.zero, i.size, i.bytes)) = some (some (.slice none 0 0), 1, 24) := by kernel_rfl
theorem und59 : Try.prog.underlying 59 = some (.slice 22) := by kernel_rfl
set_option maxRecDepth 100000 in
set_option maxHeartbeats 4000000 in
theorem table_any (a1 : Option Addr) (n1 c1 : Nat) (A : Nat → Option Addr) (L C : Nat → Nat) (z : Nat → Nat → Int) (w : World) (h : TabIn w a1 n1 A L C z) :
    Calls Try.prog 43 #[.slice a1 n1 c1] w fun e w' => ∃ v rs, e = .returned v ∧ TabIs w' v (tabT n1 L z) (fun k => w.heap.size ≤ k) rs ∧ Fr (fun _ => False) w w' := by
  obtain ⟨i3, hi3, hz3, hs3, hb3⟩ := info_parts info3
  obtain ⟨i22, hi22, hz22, hs22, hb22⟩ := info_parts info22
  have hn := h.small
  have H := Lib.hid h; clear h
  go_enter Try.func43, Try.ntmps43
  go_wp2
  go_loopw [3, 4] (fun u i wr => ∃ (k : Nat) (rs : List Value), k ≤ n1 ∧ k ≤ 20 ∧ i = .int .i64 k ∧ TabIs wr u (tabK L z k) (fun k => w.heap.size ≤ k) rs ∧ Fr (fun _ => False) w wr) (fun _ i _ => (20 - intOf i).toNat)
  case atStart =>
    exact ⟨0, [], by omega, by omega, rfl, ⟨World.ownsRow_nil _ _ _ _, fun i r xs hr => by simp at hr, by simp [Value.ownBlock], fun r hr => by simp at hr, by simp [tabK]⟩, Fr.refl _ _⟩
  case round =>
    obtain ⟨k, rs, hk1, hk2, rfl, ht, hf⟩ := hrel
    have HK := Lib.hid (And.intro ht hf)
    clear ht hf
    by_cases hlt : k < n1
    · by_cases hl2 : k < 20
      · have hin := H.out.keep HK.out.2
        obtain ⟨b, off, rfl, hc⟩ := hin.cells (by omega)
        have hcell := hc k hlt
        obtain ⟨r1, r2, r3, r4⟩ := hin.rows k hlt
        have hrow := HK.out.1.row
        rw [tabK_length] at hrow
        obtain ⟨au, cu, rfl⟩ := row_form hrow
        have HR := Lib.hid (And.intro r3 (And.intro r4 hrow))
        clear r3 r4 hrow hin hc
        obtain ⟨ra, hra⟩ : ∃ x, x = A k := ⟨_, rfl⟩
        obtain ⟨rl, hrl⟩ : ∃ x, x = L k := ⟨_, rfl⟩
        obtain ⟨rc, hrc⟩ : ∃ x, x = C k := ⟨_, rfl⟩
        have HN := Lib.hid (And.intro hra (And.intro hrl hrc))
        rw [← hra, ← hrl, ← hrc] at hcell
        rw [← hrl, ← hrc] at r1
        rw [← hrc] at r2
        clear hra hrl hrc
        go_wp2_with fail
        have hk0 : (0 : Int) ≤ (k : Int) := by omega
        have hrl0 : (0 : Int) ≤ (rl : Int) := by omega
        have hcd : wr.drew.cell? ⟨b, off + k, none⟩ = some (.slice ra rl rc) := hcell
        have HCell := Lib.hid hcd
        obtain ⟨m, hm⟩ : ∃ m, m = (min (rl : Int) 30).toNat := ⟨_, rfl⟩
        have hml : (tabRow L z k).length = m := by rw [tabRow_length, hm, ← HN.out.2.1]; omega
        have hnews : ∀ ad, ra = some ad → ∀ j u, ((tabRow L z k).map (Value.int .i64))[j]? = some u → wr.cell? (ad.add j) = some u := by
          intro ad e j u hu
          have hj : j < m := by
            have := (List.getElem?_eq_some_iff.1 hu).1
            rw [List.length_map, hml] at this; exact this
          have hjL : j < L k := by rw [← HN.out.2.1]; omega
          obtain ⟨b', o', e2, hc2⟩ := HR.out.1.cells (by omega)
          rw [← HN.out.1, e] at e2
          obtain rfl := Option.some.inj e2
          have h3 := hc2 j hjL
          rw [show (⟨b', o', none⟩ : Addr).add j = ⟨b', o' + j, none⟩ from by unfold Addr.add; split <;> simp_all, h3, ← hu]
          rw [List.getElem?_map, tabRow, List.getElem?_map, List.getElem?_range (by omega)]
          rfl
        have hI : ∀ n ∈ tabRow L z k, I64 n := fun n hn => by
          unfold tabRow at hn
          obtain ⟨j, hj, rfl⟩ := List.mem_map.1 hn
          have := List.mem_range.1 hj
          exact HR.out.1.fit j (by omega)
        have hno : ra = none → m = 0 ∧ rc = 0 := fun e => by
          have := HR.out.2.1 (by rw [← HN.out.1]; exact e)
          rw [← HN.out.2.2] at this
          omega
        have hE : (wr.alloc (.cells #[] 3)).drew.ownsRow 0 3 1 (.slice (some ⟨wr.heap.size, 0, none⟩) 0 0) 0 [] := World.ownsRow_lit (base := 0) (e := 3) (size := 1) wr #[] 0 (Nat.zero_le _) (by unfold maxLen; omega) rfl
        have HM := Lib.hid (And.intro hml (And.intro hnews (And.intro hno (And.intro hE hI))))
        have HMm := Lib.hid hm
        have hbw : b < w.heap.size := by
          obtain ⟨b', o', e2, hc2⟩ := H.out.cells (by omega)
          simp only [Option.some.injEq, Addr.mk.injEq] at e2
          obtain ⟨rfl, rfl, _⟩ := e2
          exact World.block_lt_of_cell? w _ (hc2 k hlt)
        have hws := HK.out.2.size
        have hm30 : m ≤ 30 := by omega
        clear hml hnews hno hE hI hm
        have hm0 : (0 : Int) ≤ min (rl : Int) 30 := by omega
        have hm1 : min (rl : Int) 30 ≤ (rc : Int) := by omega
        have hm2 : min (rl : Int) 30 ≤ 30 := by omega
        go_region_held3 (fun w' => w'.cell? ⟨b, off + k, none⟩ = some (.slice ra rl rc))
            (first | exact HCell.out | exact (Fr.alloc (fun _ => False) _ _).cell HCell.out id | exact HC5.out | exact (Fr.alloc (fun _ => False) _ _).cell HC5.out id | exact HC6.out)
            (first
              | (refine step_append_any rfl (.tmp 16) (.tmp 27) 22 rfl 3 i3 (.int .i64 0) 8 und22 hi3 hz3 hs3 hb3 rfl (.slice (some ⟨wr.heap.size, 0, none⟩) 0 0) 0 [] rfl HM.out.2.2.2.1 ra m rc ((tabRow L z k).map (Value.int .i64)) (by rw [HMm.out]; rfl) HM.out.2.2.1 (by rw [List.length_map]; exact HM.out.1) (fun ad e j u hu => (Fr.alloc (fun _ => False) wr (.cells #[] 3)).cell (HM.out.2.1 ad e j u hu) id) (by simp [Value.oneCell']) (by unfold maxLen; omega) (by omega) ?_
                 intro av cv w5 q1 q2 q3
                 rw [Nat.zero_add] at q1 q3
                 have f5 : Fr (fun _ => False) wr w5 := ((Fr.alloc (fun _ => False) wr (.cells #[] 3)).trans (Fr.drew (fun _ => False) _) (fun _ h => h) (fun _ _ h => h)).trans (Fr.of_grown (S := fun i => i = wr.heap.size) q2 (fun i hi => by simpa [Value.ownBlock] using hi.symm)) (fun _ h => h) (fun i hi e => by omega)
                 have HC5 := Lib.hid (f5.cell HCell.out id)
                 have HA := Lib.hid (And.intro q1 (And.intro f5 q3))
                 clear q1 q2 q3 f5)
              | (refine step_append_any rfl (.tmp 15) (.tmp 29) 59 rfl 22 i22 (.slice none 0 0) 24 und59 hi22 hz22 hs22 hb22 rfl (.slice au k cu) k rs rfl (((HA.out.2.1.row HR.out.2.2 (fun _ _ h => h))).alloc _) (some ⟨w5.heap.size, 0, none⟩) 1 1 [.slice av m cv] rfl (by simp) rfl (fun ad e j u hu => by obtain rfl := Option.some.inj e; exact cell_one_new _ _ _ j u hu) (by simp [Value.oneCell']) (by unfold maxLen; omega) (by omega) ?_
                 intro ax cx w6 q1 q2 q3
                 have f5 : Fr (fun _ => False) wr (w5.alloc (.cells #[.slice av m cv] 22)) := HA.out.2.1.trans (Fr.alloc (fun _ => False) w5 _) (fun _ h => h) (fun _ _ h => h)
                 have f6 : Fr (fun j => (Value.slice au k cu).ownBlock = some j) (w5.alloc (.cells #[.slice av m cv] 22)) w6 := Fr.of_grown q2 (fun _ h => h)
                 have HC6 := Lib.hid (f6.cell (f5.cell HCell.out id) (fun e => by have h7 : w.heap.size ≤ b := HK.out.1.inD _ e; omega))
                 have HB := Lib.hid (And.intro q1 (And.intro f5 (And.intro f6 q3)))
                 clear q1 q2 q3 f5 f6))
        all_goals (
          have hT := Lib.hid (show TabIs w6 (.slice ax (k + 1) cx) (tabK L z (k + 1)) (fun k => w.heap.size ≤ k) (rs ++ [.slice av m cv]) ∧ Fr (fun _ => False) w w6 from by
            have hs5 := HA.out.2.1.size
            have hr5 : (w5.alloc (.cells #[.slice av m cv] 22)).ownsRow 0 3 1 (.slice av m cv) (tabRow L z k).length ((tabRow L z k).map (Value.int .i64)) := by
              rw [HM.out.1]; exact (by simpa using HA.out.1 : w5.ownsRow 0 3 1 (.slice av m cv) m ((tabRow L z k).map (Value.int .i64))).alloc _
            have hvw : ∀ i, (Value.slice av m cv).ownBlock = some i → w.heap.size ≤ i := fun i hi => by
              rcases HA.out.2.2 with h | h
              · rw [h] at hi
                have : wr.heap.size = i := by simpa [Value.ownBlock] using hi
                omega
              · rw [h] at hi
                have : (wr.alloc (.cells #[] 3)).drew.heap.size = i := Option.some.inj hi
                have h8 : (wr.alloc (.cells #[] 3)).drew.heap.size = wr.heap.size + 1 := by simp
                omega
            rw [tabK_succ]
            refine ⟨(HK.out.1.keep HB.out.2.1 (fun _ _ h => h)).grown hr5 HM.out.2.2.2.2 hvw ?_ HB.out.2.2.1 (fun i hi => ?_) (by rw [tabK_length]; omega) (by rw [HM.out.1]; omega), (HK.out.2.trans HB.out.2.1 (fun _ h => h) (fun _ _ h => h)).trans HB.out.2.2.1 (fun _ h => h) (fun i hi e => by have : w.heap.size ≤ i := HK.out.1.inD i e; omega)⟩
            · rw [tabK_length]; exact HB.out.1
            · rcases HB.out.2.2.2 with h | h
              · rw [h] at hi; exact HK.out.1.inD i hi
              · rw [h] at hi
                have h9 : (w5.alloc (.cells #[.slice av m cv] 22)).heap.size = i := Option.some.inj hi
                have h8 : (w5.alloc (.cells #[.slice av m cv] 22)).heap.size = w5.heap.size + 1 := by simp
                omega)
          go_wp2
          go_roundw)
        case rel => exact ⟨k + 1, _, by omega, by omega, by go_num, hT.out⟩
        case rel => exact ⟨k + 1, _, by omega, by omega, by go_num, hT.out⟩
        all_goals (simp [intOf]; omega)
      · have HF := Lib.hid (show tabK L z k = tabT n1 L z from by unfold tabT; rw [show min n1 20 = k from by omega])
        go_wp2
        go_ret
        exact ⟨_, rs, rfl, by rw [← HF.out]; exact HK.out.1, HK.out.2⟩
    · have HF := Lib.hid (show tabK L z k = tabT n1 L z from by unfold tabT; rw [show min n1 20 = k from by omega])
      go_wp2
      go_ret
      exact ⟨_, rs, rfl, by rw [← HF.out]; exact HK.out.1, HK.out.2⟩
end Go.Proofs.Ytniifefmjdjebaa
namespace Go.Proofs.Ytniifefmjdjebaa
open Go.RowKit
set_option linter.unusedVariables false
set_option linter.unusedSimpArgs false
/-- A row that is told: one that was there in D, or a new one. -/
def ToldIn (D : Nat → Prop) (w w' : World) (e : TypeId) (xs : List Value) (en : Ending) : Prop := ∃ v, en = .returned v ∧ w'.ownsRow 0 e 1 v xs.length xs ∧ Fr (fun _ => False) w w' ∧ ∀ k, v.ownBlock = some k → D k ∨ w.heap.size ≤ k
set_option maxRecDepth 100000 in
set_option maxHeartbeats 1000000 in
theorem refRefs_any (v : Value) (T : List (List Int)) (D : Nat → Prop) (rs : List Value) (kind slots : Int) (w : World) (h : TabIs w v T D rs) (hk : I64 kind) (hs : slots ≤ 65536) (hsl : -9223372036854775808 ≤ slots) :
    Calls Try.prog 45 #[v, .int .i64 kind, .int .i64 slots] w fun e w' => ToldIn D w w' 3 ((refsT T kind slots).map (Value.int .i64)) e := by
  obtain ⟨i3, hi3, hz3, hs3, hb3⟩ := info_parts info3
  obtain ⟨av, cv, rfl⟩ := row_form h.row
  have H := Lib.hid h
  obtain ⟨k1, k2⟩ := hk
  have htl : T.length ≤ 20 := h.small.1
  obtain ⟨n, hn⟩ : ∃ n, n = T.length := ⟨_, rfl⟩
  have Hn := Lib.hid hn
  rw [← hn] at htl ⊢
  clear h hn
  by_cases h0 : 0 ≤ kind
  · by_cases h1 : kind < n
    · obtain ⟨i, rfl⟩ := Int.eq_ofNat_of_zero_le h0
      have hiT : i < T.length := by rw [← Hn.out]; omega
      have hr := H.out.row
      rw [← Hn.out] at hr
      obtain ⟨g, c, _, e1, _, _, _⟩ := row_addr hr (by omega)
      simp only [Value.slice.injEq, true_and] at e1
      obtain ⟨rfl, rfl⟩ := e1
      have hir : i < rs.length := by rw [H.out.len]; exact hiT
      obtain ⟨r, hr1⟩ : ∃ r, r = rs[i] := ⟨_, rfl⟩
      have hr2 : rs[i]? = some r := by rw [List.getElem?_eq_getElem hir, hr1]
      have hcell := row_cell hr hr2
      obtain ⟨xs, hxs⟩ : ∃ xs, T[i]? = some xs := ⟨_, List.getElem?_eq_getElem hiT⟩
      have hrr := H.out.rows i r xs hr2 hxs
      have HX := Lib.hid (show refsT T i slots = xs from by unfold refsT; rw [if_pos ⟨by omega, by omega⟩, Int.toNat_natCast, hxs]; rfl)
      have HR := Lib.hid (And.intro hrr.1 (H.out.inR r (List.mem_of_getElem? hr2)))
      clear hr hrr hiT hir hr1 hr2 hxs
      go_enter Try.func45, Try.ntmps45
      go_wp2
      go_ret
      refine ⟨_, rfl, ?_, Fr.refl _ _, fun k hk => .inl (HR.out.2 k hk)⟩
      rw [HX.out, List.length_map]
      exact HR.out.1
    · have HX := Lib.hid (show refsT T kind slots = [] from by unfold refsT; rw [if_neg (by have := Hn.out; omega), if_pos (.inl h0)])
      have hb : decide (kind < (n : Int)) = false := by simpa using h1
      have hb2 : decide (kind < 0) = false := by simp; omega
      go_enter Try.func45, Try.ntmps45
      go_wp2
      go_ret
      rw [HX.out]
      exact ⟨_, rfl, World.ownsRow_nil _ _ _ _, Fr.refl _ _, by simp [Value.ownBlock]⟩
  · have hb0 : decide (0 ≤ kind) = false := by simpa using h0
    have hb1 : decide (kind < 0) = true := by simp; omega
    by_cases h1 : kind % 2 = 0
    · have HX := Lib.hid (show refsT T kind slots = (List.range slots.toNat).map Int.ofNat from by unfold refsT; rw [if_neg (by omega), if_neg (by omega)])
      have ht : Int.tmod kind 2 = 0 := by rw [← Int.dvd_iff_tmod_eq_zero]; exact Int.dvd_of_emod_eq_zero h1
      have hb : (Int.tmod kind 2 == 0) = true := by rw [ht]; rfl
      go_enter Try.func45, Try.ntmps45
      go_wp2_with fail
      go_loopw [7, 8] (fun u i wr => ∃ k : Nat, (k : Int) ≤ max slots 0 ∧ i = .int .i64 k ∧ Onto w wr 3 nilRow u (upTo k)) (fun _ i _ => (max slots 0 - intOf i).toNat)
      case atStart => exact ⟨0, by omega, rfl, Onto.refl (World.ownsRow_nil _ _ _ _)⟩
      case round =>
        obtain ⟨k, hk, rfl, ho⟩ := hrel
        have HO := Lib.hid ho; clear ho
        by_cases hlt : (k : Int) < slots
        · have hr := HO.out.1
          rw [upTo_length] at hr
          have Hr := Lib.hid hr
          have Hk1 := Lib.hid (upTo_succ k)
          clear hr
          go_wp2_with (first | (at_builtin; refine wpList_append_own_at _ rfl _ _ 22 rfl 0 3 i3 (.int .i64 0) 1 8 und22 hi3 hz3 hs3 hb3 rfl (by decide) _ _ _ rfl (Hr.out.alloc _) ⟨wr.heap.size, 0, none⟩ 1 1 [.int .i64 k] rfl rfl ?c1 ?c2 ?c3 ?c4 ?c5 ?_))
          case c1 => exact cell_one_new _ _ _
          case c2 => intro u hu; simp at hu; subst hu; rfl
          case c3 => unfold maxLen; omega
          case c4 => omega
          case c5 => exact Nat.zero_le _
          intro v7 w7 hown7 hgr7 _ hloc7
          have HG := Lib.hid (HO.out.trans (Onto.one (x := .int .i64 (k : Int)) (by rw [upTo_length]; exact hown7) hgr7 (by simpa using hloc7)))
          clear hown7 hgr7 hloc7
          go_wp2
          go_roundw
          case rel => exact ⟨k + 1, by omega, by go_num, by rw [← Hk1.out]; exact HG.out⟩
          case measure => simp [intOf]; omega
        · have Hfin := Lib.hid (show ToldIn D w wr 3 ((refsT T kind slots).map (Value.int .i64)) (.returned u7) from by
            rw [HX.out, show slots.toNat = k from by omega, List.map_map]
            have h1 := HO.out.1
            exact ⟨_, rfl, h1, HO.out.fr, fun g hg => .inr (HO.out.new hg)⟩)
          go_wp2
          go_ret
          exact Hfin.out
    · have HX := Lib.hid (show refsT T kind slots = [] from by unfold refsT; rw [if_neg (by omega), if_pos (.inr h1)])
      have ht : ¬ Int.tmod kind 2 = 0 := fun e => h1 (Int.emod_eq_zero_of_dvd (Int.dvd_iff_tmod_eq_zero.2 e))
      have hb : (Int.tmod kind 2 == 0) = false := by simpa using ht
      go_enter Try.func45, Try.ntmps45
      go_wp2
      go_ret
      rw [HX.out]
      exact ⟨_, rfl, World.ownsRow_nil _ _ _ _, Fr.refl _ _, by simp [Value.ownBlock]⟩
/-- Those that a table tells and that there are. -/
def goodG (T : List (List Int)) (x : Ob) : List Int := (refsT T x.kind x.vs.length).filter (inB x.vs.length)
set_option maxRecDepth 100000 in
set_option maxHeartbeats 1000000 in
theorem good_any (p : Nat) (v : Value) (a : Int) (S : Nat → Prop) (s : AS) (x : Ob) (T : List (List Int)) (D : Nat → Prop) (rs : List Value) (w : World) (h : IsArena w p S s) (hx : findOb 0 s.used a = some x) (ht : TabIs w v T D rs) :
    Calls Try.prog 54 #[.pointer (some ⟨p, 0, none⟩), v, .int .i64 a] w fun e w' => NewRow w w' 3 ((goodG T x).map (Value.int .i64)) e := by
  obtain ⟨i3, hi3, hz3, hs3, hb3⟩ := info_parts info3
  have hok : x.ok := by
    obtain ⟨l1, l2, hl, _⟩ := findOb_split _ _ _ _ hx
    exact h.good.used x (by rw [hl]; simp)
  have hvl := hok.2.1
  have H := Lib.hid (And.intro h (And.intro hx (And.intro ht hok))); clear h ht hx hok
  go_enter Try.func54, Try.ntmps54
  go_wp2_with fail
  refine (Kind_any p a S s _ H.out.1).mono ?_
  rw [H.out.2.1, show kindOf (some x) = x.kind from rfl, show errI (some x) = 0 from rfl]
  rintro e w1 ⟨rfl, rfl⟩
  go_wp2_with fail
  refine (Slots_any p a S s _ H.out.1).mono ?_
  rw [H.out.2.1, show slotsOf (some x) = (x.vs.length : Int) from rfl, show errI (some x) = 0 from rfl]
  rintro e w2 ⟨rfl, rfl⟩
  go_wp2_with fail
  refine (tabRefs_any _ T D rs x.kind x.vs.length _ H.out.2.2.1 H.out.2.2.2.1 (by omega) (by omega)).mono ?_
  rintro e w4 ⟨v4, rfl, q1, q2, q3⟩
  obtain ⟨L, hL⟩ : ∃ L, L = refsT T x.kind x.vs.length := ⟨_, rfl⟩
  rw [← hL, List.length_map] at q1
  obtain ⟨a4, c4, rfl⟩ := row_form q1
  have HL := Lib.hid hL
  have H4 := Lib.hid (And.intro q1 (And.intro q2 q3))
  obtain ⟨n, hn⟩ : ∃ n, n = L.length := ⟨_, rfl⟩
  rw [← hn] at H4 ⊢
  have Hn := Lib.hid hn
  obtain ⟨xn, hxn⟩ : ∃ xn, xn = x.vs.length := ⟨_, rfl⟩
  have Hxn := Lib.hid hxn
  rw [← hxn] at hvl ⊢
  have hn64 : n ≤ 65536 := by rw [Hn.out, HL.out]; exact refsT_len T x.kind _ H.out.2.2.1.small.2 (by rw [← Hxn.out]; exact hvl)
  clear q1 q2 q3 hL hn hxn
  go_wp2_with fail
  go_loopw [12, 13] (fun u i wr => ∃ (k : Nat) (out : List Int), k ≤ n ∧ i = .int .i64 k ∧ out = (L.take k).filter (inB xn) ∧ out.length ≤ k ∧ Onto w4 wr 3 nilRow u (out.map (Value.int .i64))) (fun _ i _ => (n - intOf i).toNat)
  case atStart => exact ⟨0, [], by omega, rfl, rfl, by simp, Onto.refl (World.ownsRow_nil _ _ _ _)⟩
  case round =>
    obtain ⟨k, out, hk, rfl, r1, r2, r3⟩ := hrel
    have HK := Lib.hid (And.intro r1 r3)
    clear r1 r3
    by_cases hlt : k < n
    · have hr := HK.out.2.fr.row H4.out.1 (fun _ _ h => h)
      obtain ⟨g, c, _, e1, _, _, _⟩ := row_addr hr (by omega)
      simp only [Value.slice.injEq, true_and] at e1
      obtain ⟨rfl, rfl⟩ := e1
      have hcell := row_int hr hlt
      have htk := Lib.hid (show (L.take (k + 1)).filter (inB xn) = if inB xn (L[k]?.getD 0) = true then out ++ [L[k]?.getD 0] else out from by
        have hkL : k < L.length := by rw [← Hn.out]; exact hlt
        rw [List.take_succ_eq_append_getElem hkL, List.filter_append, ← HK.out.1, List.getElem?_eq_getElem hkL, Option.getD_some]
        by_cases hb : inB xn L[k] = true
        · rw [if_pos hb, List.filter_cons_of_pos hb]; rfl
        · rw [if_neg hb, List.filter_cons_of_neg hb]; simp)
      obtain ⟨y, hy⟩ : ∃ y, y = L[k]?.getD 0 := ⟨_, rfl⟩
      rw [← hy] at hcell htk
      clear hr hy
      by_cases hy0 : 0 ≤ y
      · by_cases hy1 : y < xn
        · have HA := Lib.hid (show (L.take (k + 1)).filter (inB xn) = out ++ [y] from by rw [htk.out, if_pos (inB_true hy0 hy1)])
          have hrow := HK.out.2.1
          rw [List.length_map] at hrow
          obtain ⟨ao, co, rfl⟩ := row_form hrow
          have Hr := Lib.hid hrow
          clear hrow
          go_wp2_with (first | (at_builtin; refine wpList_append_own_at _ rfl _ _ 22 rfl 0 3 i3 (.int .i64 0) 1 8 und22 hi3 hz3 hs3 hb3 rfl (by decide) _ _ _ rfl (Hr.out.alloc _) ⟨wr.heap.size, 0, none⟩ 1 1 [.int .i64 y] rfl rfl ?c1 ?c2 ?c3 ?c4 ?c5 ?_))
          case c1 => exact cell_one_new _ _ _
          case c2 => intro u hu; simp at hu; subst hu; rfl
          case c3 => unfold maxLen; omega
          case c4 => omega
          case c5 => exact Nat.zero_le _
          intro v7 w7 hown7 hgr7 _ hloc7
          have HG := Lib.hid (HK.out.2.trans (Onto.one (x := .int .i64 y) (by rw [List.length_map]; exact hown7) hgr7 (by simpa using hloc7)))
          clear hown7 hgr7 hloc7
          go_wp2
          go_roundw
          case rel => exact ⟨k + 1, out ++ [y], by omega, by go_num, HA.out.symm, by simp; omega, by rw [List.map_append]; exact HG.out⟩
          case measure => simp [intOf]; omega
        · have HA := Lib.hid (show (L.take (k + 1)).filter (inB xn) = out from by rw [htk.out, if_neg (by rw [inB_false (fun h => hy1 h.2)]; simp)])
          have hb : decide (y < (xn : Int)) = false := by simpa using hy1
          go_wp2
          go_roundw
          case rel => exact ⟨k + 1, out, by omega, by go_num, HA.out.symm, by omega, HK.out.2⟩
          case measure => simp [intOf]; omega
      · have HA := Lib.hid (show (L.take (k + 1)).filter (inB xn) = out from by rw [htk.out, if_neg (by rw [inB_false (fun h => hy0 h.1)]; simp)])
        have hb : decide (0 ≤ y) = false := by simpa using hy0
        go_wp2
        go_roundw
        case rel => exact ⟨k + 1, out, by omega, by go_num, HA.out.symm, by omega, HK.out.2⟩
        case measure => simp [intOf]; omega
    · obtain rfl : k = n := by omega
      have Hfin := Lib.hid (show NewRow w2 wr 3 ((goodG T x).map (Value.int .i64)) (.returned u12) from by
        have e1 : out = goodG T x := by
          rw [HK.out.1, Hn.out, List.take_length, HL.out, Hxn.out]; rfl
        exact ⟨_, rfl, by rw [← e1]; exact HK.out.2.1, H4.out.2.1.trans HK.out.2.fr (fun _ h => h) (fun _ _ h => h), fun g hg => by have := HK.out.2.new hg; have := H4.out.2.1.size; omega⟩)
      go_wp2
      go_ret
      exact Hfin.out
end Go.Proofs.Ytniifefmjdjebaa
namespace Go.Proofs.Ytniifefmjdjebaa
open Go.RowKit
set_option linter.unusedVariables false
set_option linter.unusedSimpArgs false
theorem reach_len (s : AS) (T : List (List Int)) (roots : List Int) : (reach s T roots).length ≤ s.used.length := reachK_len s T roots _
set_option maxRecDepth 100000 in
set_option maxHeartbeats 1000000 in
theorem Live_any (p : Nat) (a1 : Option Addr) (l1 c1 : Nat) (rv : Value) (rts : List Int) (S : Nat → Prop) (s : AS) (T : List (List Int)) (D : Nat → Prop) (rs : List Value) (w : World) (h : IsArena w p S s) (ht : TabIs w (.slice a1 l1 c1) T D rs) (hr : w.ownsRow 0 2 1 rv rts.length (rts.map (Value.int .i64))) :
    Calls Try.prog 55 #[.pointer (some ⟨p, 0, none⟩), .iface 61 (.slice a1 l1 c1), rv] w fun e w' => e = .returned (.int .i64 (tot (objs s (reach s T rts)))) ∧ Fr (fun _ => False) w w' := by
  have hg := h.good.small
  have hlg := reach_good s T rts
  have hrl := reach_len s T rts
  have hlt := len_le_tot s.used
  have ht1 := objs_tot s _ hlg.1 hlg.2
  have H := Lib.hid (And.intro h (And.intro ht hr)); clear h ht hr
  obtain ⟨live, hlive⟩ : ∃ live, live = reach s T rts := ⟨_, rfl⟩
  have HL := Lib.hid hlive
  rw [← hlive] at hlg hrl ht1 ⊢
  clear hlive
  have HG := Lib.hid hlg
  clear hlg
  go_enter Try.func55, Try.ntmps55
  go_wp2_with fail
  refine (Reach_any p a1 l1 c1 rv rts S s T D rs _ H.out.1 H.out.2.1 H.out.2.2).mono ?_
  rintro e w2 ⟨v2, rfl, q1, q2, q3⟩
  rw [← HL.out, List.length_map] at q1
  obtain ⟨a2, c2, rfl⟩ := row_form q1
  have H2 := Lib.hid (And.intro q1 q2)
  clear q1 q2 q3
  obtain ⟨n, hn⟩ : ∃ n, n = live.length := ⟨_, rfl⟩
  have Hn := Lib.hid hn
  rw [← hn] at H2 hrl ⊢
  clear hn
  go_wp2_with fail
  go_loopw [7, 17] (fun u i wz => ∃ (k : Nat), k ≤ n ∧ i = .int .i64 k ∧ u = .int .i64 (tot ((objs s live).take k) : Nat) ∧ wz = w2) (fun _ i _ => (n - intOf i).toNat)
  case atStart => exact ⟨0, by omega, rfl, by simp [tot_nil], rfl⟩
  case round =>
    obtain ⟨k, hk, rfl, rfl, rfl⟩ := hrel
    by_cases hlt : k < n
    · have hr := H2.out.1
      obtain ⟨g, c, _, e1, _, _, _⟩ := row_addr hr (by omega)
      simp only [Value.slice.injEq, true_and] at e1
      obtain ⟨rfl, rfl⟩ := e1
      have hcell := row_int hr hlt
      obtain ⟨y, hy⟩ : ∃ y, y = live[k]?.getD 0 := ⟨_, rfl⟩
      rw [← hy] at hcell
      have hkL : k < live.length := by rw [← Hn.out]; exact hlt
      have hyl : live[k]? = some y := by rw [hy, List.getElem?_eq_getElem hkL]; rfl
      have hob := isOb_some (HG.out.2 y (List.mem_of_getElem? hyl))
      have HX := Lib.hid hob
      have hko : k < (objs s live).length := by rw [objs_length]; exact hkL
      have hts := tot_take_succ (objs s live) k hko
      have hob2 : (objs s live)[k] = obAt s y := by
        have := objs_at s live k y hyl
        rw [List.getElem?_eq_getElem hko] at this
        exact Option.some.inj this
      rw [hob2] at hts
      have ht2 := tot_take_le (objs s live) (k + 1)
      have hsz : (obAt s y).size = 16 + 8 * (obAt s y).vs.length := rfl
      obtain ⟨vn, hvn⟩ : ∃ vn, vn = (obAt s y).vs.length := ⟨_, rfl⟩
      rw [← hvn] at hsz
      have Hvn := Lib.hid hvn
      obtain ⟨t1, ht1'⟩ : ∃ t, t = tot ((objs s live).take k) := ⟨_, rfl⟩
      obtain ⟨t2, ht2'⟩ : ∃ t, t = tot ((objs s live).take (k + 1)) := ⟨_, rfl⟩
      rw [← ht1', ← ht2'] at hts
      rw [← ht2'] at ht2
      have HT2 := Lib.hid ht2'
      rw [← ht1']
      have hts2 : t2 = t1 + (16 + 8 * vn) := by omega
      have HTs := Lib.hid hts2
      have hb1 : t1 + (16 + 8 * vn) ≤ 1048576 := by omega
      clear hr hy hkL hyl hob hko hts hob2 hsz hvn ht1' ht2' hts2
      go_wp2_with fail
      refine (Slots_any p y S s _ (H.out.1.keep H2.out.2 (fun _ _ h => h))).mono ?_
      rw [HX.out, show slotsOf (some (obAt s y)) = ((obAt s y).vs.length : Int) from rfl, ← Hvn.out, show errI (some (obAt s y)) = 0 from rfl]
      rintro e w3 ⟨rfl, rfl⟩
      go_wp2
      go_roundw
      case rel => exact ⟨k + 1, by omega, by go_num, by rw [← HT2.out, HTs.out]; rfl, trivial⟩
      case measure => simp [intOf]; omega
    · obtain rfl : k = n := by omega
      have HF := Lib.hid (show tot ((objs s live).take k) = tot (objs s live) from by rw [List.take_of_length_le (by rw [objs_length, ← Hn.out]; exact Nat.le_refl _)])
      obtain ⟨t1, ht1'⟩ : ∃ t, t = tot ((objs s live).take k) := ⟨_, rfl⟩
      rw [← ht1']
      have HT := Lib.hid ht1'
      clear ht1'
      go_wp2
      go_ret
      exact ⟨by rw [← HF.out, ← HT.out]; rfl, H2.out.2⟩
end Go.Proofs.Ytniifefmjdjebaa
