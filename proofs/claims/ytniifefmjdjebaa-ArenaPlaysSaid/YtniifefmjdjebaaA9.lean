/- Walks: Clone, All, Bytes. -/
import Derived.Test.YtniifefmjdjebaaA8
namespace Go.Proofs.Ytniifefmjdjebaa
open Go.RowKit
set_option linter.unusedVariables false
set_option linter.unusedSimpArgs false

/-- A row that is new behind a call. -/
def NewRow (w w' : World) (e : TypeId) (xs : List Value) (en : Ending) : Prop := ∃ v, en = .returned v ∧ w'.ownsRow 0 e 1 v xs.length xs ∧ Fr (fun _ => False) w w' ∧ ∀ g, v.ownBlock = some g → w.heap.size ≤ g
theorem row_cell {w : World} {base e g n cap : Nat} {xs : List Value} (h : w.ownsRow base e 1 (.slice (some ⟨g, 0, none⟩) n cap) n xs) {j : Nat} {u : Value} (hu : xs[j]? = some u) : w.cell? ⟨g, j, none⟩ = some u := by
  have hl : xs.length = n * 1 := h.1
  have hj : j < xs.length := (List.getElem?_eq_some_iff.1 hu).1
  rw [h.cellAt j (by omega), hu]
theorem und22 : Try.prog.underlying 22 = some (.slice 3) := by kernel_rfl
theorem info3 : (Try.prog.info? 3).map (fun i => (i.zero, i.size, i.bytes)) = some (some (.int .i64 0), 1, 8) := by kernel_rfl
set_option maxRecDepth 100000 in
set_option maxHeartbeats 400000 in
theorem cloneB_any (vb : Value) (xs : List Value) (w : World) (h : w.ownsRow 0 5 1 vb xs.length xs) (h1 : ∀ x ∈ xs, x.oneCell' = true) (hm : xs.length ≤ 8388608) :
    Calls Try.prog 61 #[vb] w fun e w' => NewRow w w' 5 xs e := by
  obtain ⟨i5, hi5, hz5, hs5, hb5⟩ := info_parts info5
  have heq := fun (w : World) (a : Option Addr) (n c n' c' : Nat) => Lib.run_eql_slice_nil (P := Try.prog) w 33 5 a n c n' c' und33
  rcases h.2 with ⟨rfl, h0⟩ | ⟨g, cap, cur, rfl, _, hg, hnc, hcm, _⟩
  · obtain rfl : xs = [] := List.eq_nil_of_length_eq_zero h0
    go_enter Try.func61, Try.ntmps61
    go_wp2
    go_ret
    exact ⟨_, rfl, World.ownsRow_nil _ _ _ _, Fr.refl _ _, by simp [Value.ownBlock]⟩
  · have hb := World.ownsRow_lit (e := 5) (size := 1) w #[] 0 (base := 0) (Nat.zero_le _) (Nat.zero_le _) rfl
    have Hb := Lib.hid hb; clear hb
    have Hg := Lib.hid hg; clear hg
    have H := Lib.hid h; clear h
    have H1 := Lib.hid h1; clear h1
    go_enter Try.func61, Try.ntmps61
    go_wp2_with (first | (at_builtin; refine wpList_append_own_at _ rfl _ _ 33 rfl 0 5 i5 (.int .u8 0) 1 1 und33 hi5 hz5 hs5 hb5 rfl (by decide) _ _ _ rfl Hb.out ⟨g, 0, none⟩ xs.length cap xs rfl (by omega) ?c1 ?c2 ?c3 ?c4 ?c5 ?_))
    case c1 => exact fun j u hu => row_cell (H.out.alloc _) hu
    case c2 => exact H1.out
    case c3 => unfold maxLen; omega
    case c4 => omega
    intro v w1 hown hgr _ hloc
    have Hloc := Lib.hid hloc; clear hloc
    go_wp2
    go_ret
    refine ⟨_, rfl, hown, ((Fr.alloc (fun _ => False) w _).trans (Fr.of_grown hgr (S := fun k => k = w.heap.size) (fun k hk => by simpa [Value.ownBlock] using hk.symm)) (fun _ h => h) (fun i hi e => absurd e (by omega))), fun g hg => ?_⟩
    have hg' : v.ownBlock = some g := hg
    rcases Hloc.out with h | h <;> rw [h] at hg' <;> simp [Value.ownBlock] at hg' <;> omega
set_option maxRecDepth 100000 in
set_option maxHeartbeats 400000 in
theorem cloneW_any (vb : Value) (xs : List Value) (w : World) (h : w.ownsRow 0 2 1 vb xs.length xs) (h1 : ∀ x ∈ xs, x.oneCell' = true) (hm : xs.length ≤ 8388608) :
    Calls Try.prog 62 #[vb] w fun e w' => NewRow w w' 2 xs e := by
  obtain ⟨i5, hi5, hz5, hs5, hb5⟩ := info_parts info2
  have heq := fun (w : World) (a : Option Addr) (n c n' c' : Nat) => Lib.run_eql_slice_nil (P := Try.prog) w 38 2 a n c n' c' und38
  rcases h.2 with ⟨rfl, h0⟩ | ⟨g, cap, cur, rfl, _, hg, hnc, hcm, _⟩
  · obtain rfl : xs = [] := List.eq_nil_of_length_eq_zero h0
    go_enter Try.func62, Try.ntmps62
    go_wp2
    go_ret
    exact ⟨_, rfl, World.ownsRow_nil _ _ _ _, Fr.refl _ _, by simp [Value.ownBlock]⟩
  · have hb := World.ownsRow_lit (e := 2) (size := 1) w #[] 0 (base := 0) (Nat.zero_le _) (Nat.zero_le _) rfl
    have Hb := Lib.hid hb; clear hb
    have Hg := Lib.hid hg; clear hg
    have H := Lib.hid h; clear h
    have H1 := Lib.hid h1; clear h1
    go_enter Try.func62, Try.ntmps62
    go_wp2_with (first | (at_builtin; refine wpList_append_own_at _ rfl _ _ 38 rfl 0 2 i5 (.int .i64 0) 1 8 und38 hi5 hz5 hs5 hb5 rfl (by decide) _ _ _ rfl Hb.out ⟨g, 0, none⟩ xs.length cap xs rfl (by omega) ?c1 ?c2 ?c3 ?c4 ?c5 ?_))
    case c1 => exact fun j u hu => row_cell (H.out.alloc _) hu
    case c2 => exact H1.out
    case c3 => unfold maxLen; omega
    case c4 => omega
    intro v w1 hown hgr _ hloc
    have Hloc := Lib.hid hloc; clear hloc
    go_wp2
    go_ret
    refine ⟨_, rfl, hown, ((Fr.alloc (fun _ => False) w _).trans (Fr.of_grown hgr (S := fun k => k = w.heap.size) (fun k hk => by simpa [Value.ownBlock] using hk.symm)) (fun _ h => h) (fun i hi e => absurd e (by omega))), fun g hg => ?_⟩
    have hg' : v.ownBlock = some g := hg
    rcases Hloc.out with h | h <;> rw [h] at hg' <;> simp [Value.ownBlock] at hg' <;> omega
set_option maxRecDepth 100000 in
set_option maxHeartbeats 400000 in
theorem cloneI_any (vb : Value) (xs : List Value) (w : World) (h : w.ownsRow 0 3 1 vb xs.length xs) (h1 : ∀ x ∈ xs, x.oneCell' = true) (hm : xs.length ≤ 8388608) :
    Calls Try.prog 77 #[vb] w fun e w' => NewRow w w' 3 xs e := by
  obtain ⟨i5, hi5, hz5, hs5, hb5⟩ := info_parts info3
  have heq := fun (w : World) (a : Option Addr) (n c n' c' : Nat) => Lib.run_eql_slice_nil (P := Try.prog) w 22 3 a n c n' c' und22
  rcases h.2 with ⟨rfl, h0⟩ | ⟨g, cap, cur, rfl, _, hg, hnc, hcm, _⟩
  · obtain rfl : xs = [] := List.eq_nil_of_length_eq_zero h0
    go_enter Try.func77, Try.ntmps77
    go_wp2
    go_ret
    exact ⟨_, rfl, World.ownsRow_nil _ _ _ _, Fr.refl _ _, by simp [Value.ownBlock]⟩
  · have hb := World.ownsRow_lit (e := 3) (size := 1) w #[] 0 (base := 0) (Nat.zero_le _) (Nat.zero_le _) rfl
    have Hb := Lib.hid hb; clear hb
    have Hg := Lib.hid hg; clear hg
    have H := Lib.hid h; clear h
    have H1 := Lib.hid h1; clear h1
    go_enter Try.func77, Try.ntmps77
    go_wp2_with (first | (at_builtin; refine wpList_append_own_at _ rfl _ _ 22 rfl 0 3 i5 (.int .i64 0) 1 8 und22 hi5 hz5 hs5 hb5 rfl (by decide) _ _ _ rfl Hb.out ⟨g, 0, none⟩ xs.length cap xs rfl (by omega) ?c1 ?c2 ?c3 ?c4 ?c5 ?_))
    case c1 => exact fun j u hu => row_cell (H.out.alloc _) hu
    case c2 => exact H1.out
    case c3 => unfold maxLen; omega
    case c4 => omega
    intro v w1 hown hgr _ hloc
    have Hloc := Lib.hid hloc; clear hloc
    go_wp2
    go_ret
    refine ⟨_, rfl, hown, ((Fr.alloc (fun _ => False) w _).trans (Fr.of_grown hgr (S := fun k => k = w.heap.size) (fun k hk => by simpa [Value.ownBlock] using hk.symm)) (fun _ h => h) (fun i hi e => absurd e (by omega))), fun g hg => ?_⟩
    have hg' : v.ownBlock = some g := hg
    rcases Hloc.out with h | h <;> rw [h] at hg' <;> simp [Value.ownBlock] at hg' <;> omega
set_option maxHeartbeats 400000 in
theorem Bytes_any (p : Nat) (S : Nat → Prop) (s : AS) (w : World) (h : IsArena w p S s) :
    Calls Try.prog 25 #[.pointer (some ⟨p, 0, none⟩)] w fun e w' => NewRow w w' 5 ((encs s.used).map (Value.int .u8)) e := by
  obtain ⟨vb, vl, m, vb', vl', mo', mv, hp, h1, h2, h3, h4, h5, h6, h7, h8, h9, h10, h11, hS⟩ := h
  have hlen := encs_length s.used
  have hll := len_le_tot s.used
  have c0 := blk_cell hp 0
  simp only [List.getElem?_toArray, List.getElem?_cons_succ, List.getElem?_cons_zero] at c0
  have H := Lib.hid (cloneB_any _ ((encs s.used).map (Value.int .u8)) w (by rw [List.length_map]; exact h1.bytes) (by intro x hx; obtain ⟨y, _, rfl⟩ := List.mem_map.1 hx; rfl) (by rw [List.length_map]; omega))
  clear hp h1 h2 h3 h4 h5 h6 h7 h8 hS hlen
  go_enter Try.func25, Try.ntmps25
  go_wp2_with fail
  refine H.out.mono ?_
  rintro e w' ⟨v, rfl, h1, h2, h3⟩
  have H1 := Lib.hid (And.intro h1 (And.intro h2 h3))
  clear h1 h2 h3
  go_wp2
  go_ret
  exact ⟨v, rfl, H1.out⟩
set_option maxHeartbeats 400000 in
theorem All_any (p : Nat) (S : Nat → Prop) (s : AS) (w : World) (h : IsArena w p S s) :
    Calls Try.prog 27 #[.pointer (some ⟨p, 0, none⟩)] w fun e w' => NewRow w w' 2 ((addrs 0 s.used).map (Value.int .i64)) e := by
  obtain ⟨vb, vl, m, vb', vl', mo', mv, hp, h1, h2, h3, h4, h5, h6, h7, h8, h9, h10, h11, hS⟩ := h
  have hlen := encs_length s.used
  have hll := len_le_tot s.used
  have c0 := blk_cell hp 1
  simp only [List.getElem?_toArray, List.getElem?_cons_succ, List.getElem?_cons_zero] at c0
  have H := Lib.hid (cloneW_any _ ((addrs 0 s.used).map (Value.int .i64)) w (by rw [List.length_map]; rw [addrs_length]; exact h2) (by intro x hx; obtain ⟨y, _, rfl⟩ := List.mem_map.1 hx; rfl) (by rw [List.length_map]; rw [addrs_length]; omega))
  clear hp h1 h2 h3 h4 h5 h6 h7 h8 hS hlen
  go_enter Try.func27, Try.ntmps27
  go_wp2_with fail
  refine H.out.mono ?_
  rintro e w' ⟨v, rfl, h1, h2, h3⟩
  have H1 := Lib.hid (And.intro h1 (And.intro h2 h3))
  clear h1 h2 h3
  go_wp2
  go_ret
  exact ⟨v, rfl, H1.out⟩
end Go.Proofs.Ytniifefmjdjebaa
