/- Walks of the laws' helpers: made, SameWords, number. -/
import Derived.Test.YtniifefmjdjebaaC0
namespace Go.Proofs.Ytniifefmjdjebaa
open Go.RowKit
set_option linter.unusedVariables false
set_option linter.unusedSimpArgs false

/-- A call of an arena, as the laws get it. -/
structure CallD where
  kind : Int
  n : Int
  m : Int
  at_ : Int
  v : Int
def CallD.fit (c : CallD) : Prop := I64 c.kind ∧ I64 c.n ∧ I64 c.m ∧ I64 c.at_ ∧ I64 c.v
/-- Calls in a slice that came in. -/
structure CallsIn (w : World) (a : Option Addr) (len : Nat) (c : Nat → CallD) : Prop where
  small : len ≤ 9223372036854775807
  cells : 0 < len → ∃ b off, a = some ⟨b, off, none⟩ ∧ ∀ i, i < len → w.cell? ⟨b, off + i * 5, none⟩ = some (.int .i64 (c i).kind) ∧ w.cell? ⟨b, off + i * 5 + 1, none⟩ = some (.int .i64 (c i).n) ∧
    w.cell? ⟨b, off + i * 5 + 2, none⟩ = some (.int .i64 (c i).m) ∧ w.cell? ⟨b, off + i * 5 + 3, none⟩ = some (.int .i64 (c i).at_) ∧ w.cell? ⟨b, off + i * 5 + 4, none⟩ = some (.int .i64 (c i).v)
  fit : ∀ i, i < len → (c i).fit
theorem CallsIn.keep {w w' : World} {a : Option Addr} {len : Nat} {c : Nat → CallD} (h : CallsIn w a len c) (hf : Fr (fun _ => False) w w') : CallsIn w' a len c :=
  ⟨h.small, fun h0 => by
    obtain ⟨b, off, e, hc⟩ := h.cells h0
    exact ⟨b, off, e, fun i hi => let ⟨h1, h2, h3, h4, h5⟩ := hc i hi; ⟨hf.cell h1 id, hf.cell h2 id, hf.cell h3 id, hf.cell h4 id, hf.cell h5 id⟩⟩, h.fit⟩
def madeK (s : AS) (c : Nat → CallD) : Nat → AS
  | 0 => s
  | k + 1 => (madeK s c k).make (c k).n ((c k).m % 20)
def madeS (semi : Int) (c : Nat → CallD) (len : Nat) : AS := madeK (AS.new (256 + semi % 8000)) c (min len 60)
def MadeOk (w : World) (s : AS) (e : Ending) (w' : World) : Prop := ∃ p S, e = .returned (.pointer (some ⟨p, 0, none⟩)) ∧ IsArena w' p S s ∧ Fr (fun _ => False) w w' ∧ ∀ k, S k → w.heap.size ≤ k
set_option maxRecDepth 100000 in
set_option maxHeartbeats 1000000 in
theorem made_any (semi : Int) (a1 : Option Addr) (len1 cap1 : Nat) (c : Nat → CallD) (w : World) (hs : I64 semi) (h1 : CallsIn w a1 len1 c) :
    Calls Try.prog 26 #[.int .i64 semi, .slice a1 len1 cap1] w (MadeOk w (madeS semi c len1)) := by
  have hr1 := Int.emod_nonneg semi (show (8000 : Int) ≠ 0 by omega)
  have hr2 := Int.emod_lt_of_pos semi (show (0 : Int) < 8000 by omega)
  have hsm := h1.small
  have HI := Lib.hid h1; clear h1
  obtain ⟨s0, hs0⟩ : ∃ s0, s0 = AS.new (256 + semi % 8000) := ⟨_, rfl⟩
  have Hm := Lib.hid (show madeS semi c len1 = madeK s0 c (min len1 60) from by rw [hs0]; rfl)
  go_enter Try.func26, Try.ntmps26
  go_wp2_with fail
  refine (within_any semi 8000 _ hs (by omega) (by omega)).mono ?_
  rintro e w2 ⟨rfl, rfl⟩
  obtain ⟨sm, hsm2⟩ : ∃ sm, sm = semi % 8000 := ⟨_, rfl⟩
  rw [← hsm2] at hr1 hr2 hs0 ⊢
  have Hs0 := Lib.hid hs0
  clear hsm2 hs0
  go_wp2_with fail
  refine (New_any (256 + sm) _ (by omega) (by omega)).mono ?_
  rintro e w3 ⟨p, S, rfl, hA, hfr, hS⟩
  have H0 := Lib.hid (And.intro hA (And.intro hfr hS))
  clear hA hfr hS
  go_wp2_with fail
  go_loopw [7] (fun i wr => ∃ (k : Nat) (S : Nat → Prop), k ≤ 60 ∧ k ≤ len1 ∧ i = .int .i64 k ∧ IsArena wr p S (madeK s0 c k) ∧ Fr (fun _ => False) w2 wr ∧ (∀ j, S j → w2.heap.size ≤ j)) (fun i _ => (60 - intOf i).toNat)
  case atStart => exact ⟨0, S, by omega, by omega, rfl, by rw [Hs0.out]; exact H0.out.1, H0.out.2.1, H0.out.2.2⟩
  case round =>
    obtain ⟨k, S, hk, hk2, rfl, hA, hF, hS⟩ := hrel
    have HA := Lib.hid (And.intro hA (And.intro hF hS))
    clear hA hF hS
    by_cases hlt : k < len1 ∧ k < 60
    · obtain ⟨hlt, hlt2⟩ := hlt
      obtain ⟨b, off, rfl, hc⟩ := (HI.out.keep HA.out.2.1).cells (by omega)
      obtain ⟨e1, e2, e3, e4, e5⟩ := hc k hlt
      obtain ⟨f1, f2, f3, f4, f5⟩ := HI.out.fit k hlt
      clear hc e1 e4 e5
      have Hst := Lib.hid (show (madeK s0 c k).make (c k).n ((c k).m % 20) = madeK s0 c (k + 1) from rfl)
      have Hf := Lib.hid (And.intro f2 f3)
      clear f1 f2 f3 f4 f5
      go_wp2_with fail
      go_still_tail 12, (by kernel_rfl)
      still_call (within_any (c k).m 20 _ Hf.out.2 (by omega) (by omega))
      repeat still_step
      refine wpStill_nil ?_
      change wpList _ _ _ _ _ (wr.drewN 1)
      go_wp2_with fail
      refine (Make_any p (c k).n ((c k).m % 20) S _ _ (HA.out.1.drewN 1) Hf.out.1).mono ?_
      rw [Hst.out]
      rintro e w4 ⟨rfl, ht⟩
      have Ht := Lib.hid (ht.drewN.frN HA.out.2.1 HA.out.2.2)
      clear ht
      go_wp2
      go_roundw
      case rel =>
        obtain ⟨S', g1, g2, g3⟩ := Ht.out
        exact ⟨k + 1, S', by omega, by omega, by go_num, g1, g2, g3⟩
      case measure => simp [intOf]; omega
    · have Hfin := Lib.hid (show MadeOk w2 (madeS semi c len1) (.returned (.pointer (some ⟨p, 0, none⟩))) wr from ⟨p, S, rfl, by rw [Hm.out, show min len1 60 = k from by omega]; exact HA.out.1, HA.out.2⟩)
      by_cases hlt1 : k < len1
      · have hlt2 : ¬ k < 60 := by omega
        clear hlt
        go_wp2
        go_ret
        exact Hfin.out
      · clear hlt
        go_wp2
        go_ret
        exact Hfin.out

def sameW (xs ys : List Int) : Bool := decide (xs = ys)
theorem take_succ_ne {xs ys : List Int} {k : Nat} (h1 : k < xs.length) (h2 : k < ys.length) (he : xs.take k = ys.take k) (h : xs[k]?.getD 0 = ys[k]?.getD 0) : xs.take (k + 1) = ys.take (k + 1) := by
  rw [List.getElem?_eq_getElem h1, List.getElem?_eq_getElem h2] at h
  have h' : xs[k] = ys[k] := by simpa using h
  rw [List.take_succ_eq_append_getElem h1, List.take_succ_eq_append_getElem h2, he, h']
/-- The cells of a row of whole numbers. -/
theorem row_int {w : World} {base e g n cap : Nat} {k : IntKind} {xs : List Int} (h : w.ownsRow base e 1 (.slice (some ⟨g, 0, none⟩) n cap) n (xs.map (Value.int k))) {j : Nat} (hj : j < n) : w.cell? ⟨g, j, none⟩ = some (.int k (xs[j]?.getD 0)) := by
  have hl : xs.length = n := by simpa using h.1
  refine row_cell h ?_
  rw [List.getElem?_map, List.getElem?_eq_getElem (by omega)]
  rfl
set_option maxRecDepth 100000 in
set_option maxHeartbeats 1000000 in
theorem SameWords_any (va vb : Value) (xs ys : List Int) (w : World) (h1 : w.ownsRow 0 2 1 va xs.length (xs.map (Value.int .i64))) (h2 : w.ownsRow 0 2 1 vb ys.length (ys.map (Value.int .i64))) :
    Calls Try.prog 29 #[va, vb] w fun e w' => e = .returned (.bool (sameW xs ys)) ∧ ∃ n, w' = w.drewN n := by
  have hma : xs.length ≤ maxLen := by
    rcases h1.2 with ⟨_, h⟩ | ⟨_, _, _, _, _, _, h, h', _⟩ <;> omega
  have hmb : ys.length ≤ maxLen := by
    rcases h2.2 with ⟨_, h⟩ | ⟨_, _, _, _, _, _, h, h', _⟩ <;> omega
  unfold maxLen at hma hmb
  obtain ⟨a1, c1, rfl⟩ := row_form h1
  obtain ⟨a2, c2, rfl⟩ := row_form h2
  by_cases hl : xs.length = ys.length
  · have h1' := Lib.hid h1
    have h2' := Lib.hid h2
    rw [← hl] at h2' hmb ⊢
    have Hl := Lib.hid hl
    clear h1 h2
    have hl2 : ((xs.length : Int) == xs.length) = true := by simp
    clear hl hmb
    go_enter Try.func29, Try.ntmps29
    go_wp2_with fail
    go_loopw [5] (fun i wr => ∃ k : Nat, k ≤ xs.length ∧ i = .int .i64 k ∧ xs.take k = ys.take k ∧ ∃ n, wr = w.drewN n) (fun i _ => (xs.length - intOf i).toNat)
    case atStart => exact ⟨0, by omega, rfl, rfl, 0, rfl⟩
    case round =>
      obtain ⟨k, hk, rfl, he, n, rfl⟩ := hrel
      have He := Lib.hid he; clear he
      by_cases hlt : k < xs.length
      · obtain ⟨g1, q1, _, e1, _, _, _⟩ := row_addr h1'.out (by omega)
        obtain ⟨g2, q2, _, e2, _, _, _⟩ := row_addr h2'.out (by omega)
        simp only [Value.slice.injEq, true_and] at e1 e2
        obtain ⟨rfl, rfl⟩ := e1
        obtain ⟨rfl, rfl⟩ := e2
        have k1 := row_int h1'.out hlt
        have k2 := row_int h2'.out hlt
        by_cases hv : xs[k]?.getD 0 = ys[k]?.getD 0
        · have Hv := Lib.hid (take_succ_ne hlt (by rw [← Hl.out]; exact hlt) He.out hv)
          have hvb : (xs[k]?.getD 0 != ys[k]?.getD 0) = false := by simp [hv]
          generalize xs[k]?.getD 0 = x at *
          generalize ys[k]?.getD 0 = y at *
          clear hv
          go_wp2
          go_quiet (fail)
          go_wp2
          go_roundw
          case rel => exact ⟨k + 1, by omega, by go_num, Hv.out, _, rfl⟩
          case measure => simp [intOf]; omega
        · have Hf := Lib.hid (show sameW xs ys = false from by unfold sameW; rw [decide_eq_false]; intro h; exact hv (by rw [h]))
          have hvb : (xs[k]?.getD 0 != ys[k]?.getD 0) = true := by simpa using hv
          generalize xs[k]?.getD 0 = x at *
          generalize ys[k]?.getD 0 = y at *
          clear hv
          go_wp2
          go_quiet (fail)
          go_wp2
          go_ret
          exact ⟨by rw [Hf.out]; rfl, _, World.drewN_drewN _ _ _⟩
      · have Hf := Lib.hid (show sameW xs ys = true from by
          unfold sameW; rw [decide_eq_true]
          have := He.out
          rw [List.take_of_length_le (by omega), List.take_of_length_le (by rw [← Hl.out]; omega)] at this
          exact this)
        go_wp2
        go_ret
        exact ⟨by rw [Hf.out]; rfl, n, rfl⟩
  · have Hf := Lib.hid (show sameW xs ys = false from by unfold sameW; rw [decide_eq_false]; intro h; exact hl (by rw [h]))
    have hb : ((xs.length : Int) != ys.length) = true := by simp; omega
    clear h1 h2 hl
    go_enter Try.func29, Try.ntmps29
    go_wp2
    go_ret
    exact ⟨by rw [Hf.out]; rfl, 0, rfl⟩

set_option maxHeartbeats 400000 in
/-- The number that eight bytes of a row say. -/
theorem lawNumber_any (a : Int) (vb : Value) (bs : List Int) (n : Int) (w : World) (hown : w.ownsRow 0 5 1 vb bs.length (bs.map (Value.int .u8))) (ha : 0 ≤ a) (hn : I64 n)
    (h8 : (bs.drop a.toNat).take 8 = w8 n) :
    Calls Try.prog 31 #[vb, .int .i64 a] w fun e w' => e = .returned (.int .i64 n) ∧ w' = w := by
  obtain ⟨at', rfl⟩ := Int.eq_ofNat_of_zero_le ha
  rw [Int.toNat_natCast] at h8
  have hlen : at' + 8 ≤ bs.length := by
    have := congrArg List.length h8
    simp [w8_length] at this
    omega
  obtain ⟨g, cap, cur, rfl, hg, hnc, hcm⟩ := row_addr hown (by omega)
  have Hc := Lib.hid (show ∀ i, i < 8 → w.cell? ⟨g, at' + i, none⟩ = some (.int .u8 ((w8 n)[i]?.getD 0)) from by
    intro i hi
    have h1 := row_int hown (j := at' + i) (by omega)
    rw [h1, ← h8, List.getElem?_take_of_lt hi, List.getElem?_drop])
  have hm : bs.length ≤ 9223372036854775807 := by simp only [maxLen] at hcm; omega
  have Hn := Lib.hid hn
  clear hown h8 hg hn
  go_enter Try.func31, Try.ntmps31
  go_wp2
  go_loop [5, 6] (fun v i => ∃ k : Nat, k ≤ 8 ∧ i = .int .i64 (at' + k) ∧ v = .int .u64 (be ((w8 n).take k))) (fun _ i => (at' + 8 - intOf i).toNat)
  case atStart => exact ⟨0, by omega, by go_num, rfl⟩
  case round =>
    obtain ⟨k, hk, rfl, rfl⟩ := hrel
    by_cases hlt : k < 8
    · have hx := Hc.out k hlt
      go_wp2
      go_round
      case rel => exact ⟨k + 1, by omega, by go_num, congrArg (Value.int .u64) (be_step (w8 n) rfl (w8_range n) k hlt)⟩
      case measure => simp [intOf]; omega
    · obtain rfl : k = 8 := by omega
      go_wp2
      go_ret
      exact ⟨congrArg (fun x => Ending.returned (Value.int .i64 x)) ((u64_num (w8 n) rfl (w8_range n)).trans (num_w8 n Hn.out)), rfl⟩
end Go.Proofs.Ytniifefmjdjebaa
