/- Walk: lay. -/
import Derived.Test.YtniifefmjdjebaaA4
import Derived.Maps.AppendAt
namespace Go.Proofs.Ytniifefmjdjebaa
open Go.RowKit
set_option linter.unusedVariables false
set_option linter.unusedSimpArgs false

theorem und33 : Try.prog.underlying 33 = some (.slice 5) := by kernel_rfl
theorem und38 : Try.prog.underlying 38 = some (.slice 2) := by kernel_rfl
theorem und3 : Try.prog.underlying 3 = some (.int .i64) := by kernel_rfl
theorem info5 : (Try.prog.info? 5).map (fun i => (i.zero, i.size, i.bytes)) = some (some (.int .u8 0), 1, 1) := by kernel_rfl
theorem info2 : (Try.prog.info? 2).map (fun i => (i.zero, i.size, i.bytes)) = some (some (.int .i64 0), 1, 8) := by kernel_rfl
/-- An owned row of at least one cell has an address. -/
theorem row_addr {w : World} {base e n : Nat} {v : Value} {xs : List Value} (h : w.ownsRow base e 1 v n xs) (hn : 0 < n) :
    ∃ g cap cur, v = .slice (some ⟨g, 0, none⟩) n cap ∧ w.heap[g]? = some (.cells cur e (0, 0)) ∧ n ≤ cap ∧ cap ≤ maxLen := by
  rcases h.2 with ⟨_, h0⟩ | ⟨g, cap, cur, h1, _, h2, h3, h4, _⟩
  · omega
  · exact ⟨g, cap, cur, h1, h2, h3, h4⟩
/-- An owned row's value is a slice of that length. -/
theorem row_form {w : World} {base e n : Nat} {v : Value} {xs : List Value} (h : w.ownsRow base e 1 v n xs) : ∃ a c, v = .slice a n c := by
  rcases h.2 with ⟨h1, h0⟩ | ⟨g, cap, cur, h1, _⟩
  · exact ⟨none, 0, by rw [h1, h0]⟩
  · exact ⟨_, _, h1⟩
theorem row_ne {w : World} {base e size n : Nat} {v : Value} {xs : List Value} (h : w.ownsRow base e size v n xs) {p : Nat} {cs : Array Value} {e' : TypeId} {fr : Nat × Nat} (hp : w.heap[p]? = some (.cells cs e' fr)) (hne : e' ≠ e) : some p ≠ v.ownBlock := by
  rcases h.2 with ⟨h0, _⟩ | ⟨g, cap, cur, h1, _, h2, _⟩
  · subst h0; simp [Value.ownBlock]
  · subst h1
    simp only [Value.ownBlock, ne_eq, Option.some.injEq]
    rintro rfl
    rw [hp] at h2
    simp at h2
    exact hne h2.2.1
/-- Rows of different types of elements lie in different blocks. -/
theorem rows_apart {w : World} {base e size n base' e' size' n' : Nat} {v v' : Value} {xs xs' : List Value} (h : w.ownsRow base e size v n xs) (h' : w.ownsRow base' e' size' v' n' xs') (hne : e ≠ e') {k : Nat} (hk : v.ownBlock = some k) (hk' : v'.ownBlock = some k) : False := by
  rcases h.2 with ⟨h0, _⟩ | ⟨g, cap, cur, h1, _, h2, _⟩
  · subst h0; simp [Value.ownBlock] at hk
  · subst h1
    simp [Value.ownBlock] at hk
    subst hk
    exact row_ne h' h2 hne hk'.symm
theorem row_ne_map {w : World} {base e size n : Nat} {v : Value} {xs : List Value} (h : w.ownsRow base e size v n xs) {p : Nat} {es : Array MapEntry} {c : Nat} (hp : w.heap[p]? = some (.map es c)) : some p ≠ v.ownBlock := by
  rcases h.2 with ⟨h0, _⟩ | ⟨g, cap, cur, h1, _, h2, _⟩
  · subst h0; simp [Value.ownBlock]
  · subst h1
    simp only [Value.ownBlock, ne_eq, Option.some.injEq]
    rintro rfl
    rw [hp] at h2
    simp at h2
theorem row_ne_imap {w : World} {base e size n : Nat} {v : Value} {xs : List Value} (h : w.ownsRow base e size v n xs) {p : Nat} {f : Int → Option Int} (hp : IMap w p f) : some p ≠ v.ownBlock := by
  obtain ⟨es, c, hb, _⟩ := hp
  exact row_ne_map h hb
theorem blk_cell {w : World} {p : Nat} {cs : Array Value} {t : TypeId} {fr : Nat × Nat} (h : w.heap[p]? = some (.cells cs t fr)) (j : Nat) : w.cell? ⟨p, j, none⟩ = cs[j]? := by
  simp [World.cell?, h]
theorem blk_free {w : World} {p : Nat} {cs : Array Value} {t : TypeId} (h : w.heap[p]? = some (.cells cs t (0, 0))) (j : Nat) : w.frozen? ⟨p, j, none⟩ = false := by
  simp [World.frozen?, h]
theorem blk_set {w : World} {p : Nat} {cs : Array Value} {t : TypeId} (h : w.heap[p]? = some (.cells cs t (0, 0))) (j : Nat) (v : Value) : (w.setCell ⟨p, j, none⟩ v).heap[p]? = some (.cells (cs.setIfInBounds j v) t (0, 0)) :=
  heap_setCell_same w p j cs t v h
theorem len_le_tot (l : List Ob) : l.length ≤ tot l := by
  induction l with
  | nil => simp
  | cons x l ih => rw [tot_cons, List.length_cons]; have := size_pos x; omega
theorem w8_zero : w8 0 = List.replicate 8 0 := by decide
theorem flat8_zero (s : Nat) : (List.replicate s (0 : Int)).flatMap w8 = List.replicate (8 * s) 0 := by
  induction s with
  | zero => rfl
  | succ s ih => rw [List.replicate_succ, List.flatMap_cons, ih, w8_zero, show 8 * (s + 1) = 8 + 8 * s from by omega, List.replicate_append_replicate]
/-- The bytes of an object that is laid down at the end. -/
theorem put8_new (l : List Ob) (kind : Int) (s : Nat) : put8 (put8 (encs l ++ List.replicate (16 + 8 * s) 0) (encs l).length kind) ((encs l).length + 8) s = encs (l ++ [⟨kind, List.replicate s 0⟩]) := by
  have e1 : put8 (encs l ++ List.replicate (16 + 8 * s) 0) (encs l).length kind = encs l ++ w8 kind ++ List.replicate (8 + 8 * s) 0 := by
    unfold put8
    rw [List.take_left, List.drop_append, List.drop_of_length_le (by omega), List.drop_replicate, show 16 + 8 * s - ((encs l).length + 8 - (encs l).length) = 8 + 8 * s from by omega]
    simp
  rw [e1]
  unfold put8
  rw [List.take_left' (by simp [w8_length]), List.drop_append, List.drop_of_length_le (by simp [w8_length] <;> omega), List.drop_replicate, show 8 + 8 * s - ((encs l).length + 8 + 8 - (encs l ++ w8 kind).length) = 8 * s from by simp [w8_length] <;> omega, encs_append, encs_cons]
  simp [enc, encs, flat8_zero, List.append_assoc]
/-- A half behind a laying, said of its parts. -/
theorem HalfOf.laid {w w' : World} {vb vb' : Value} {m : Nat} {l : List Ob} {f : Int → Option Int} {kind : Int} {s : Nat} (hh : HalfOf w vb (some m) l) (hk : I64 kind) (hs : s ≤ 65536) (ht : tot l + 16 + 8 * s ≤ 1048576)
    (hf : ∀ k, (f k).isSome = (findOb 0 l k).isSome)
    (hb : w'.ownsRow 0 5 1 vb' ((encs l).length + (16 + 8 * s)) ((encs (l ++ [⟨kind, List.replicate s 0⟩])).map (Value.int .u8))) (hm : IMap w' m (fun k' => if k' = (tot l : Int) + 8 then some l.length else f k')) :
    HalfOf w' vb' (some m) (l ++ [⟨kind, List.replicate s 0⟩]) := by
  have he : (encs (l ++ [⟨kind, List.replicate s 0⟩])).length = (encs l).length + (16 + 8 * s) := by
    rw [encs_length, encs_length, tot_append, tot_cons, tot_nil]; simp [Ob.size]
  refine ⟨by rw [he]; exact hb, ⟨_, hm, fun k => ?_⟩, ?_, ?_⟩
  · rw [findOb_append, show ((0 + tot l + 8 : Nat) : Int) = (tot l : Int) + 8 from by omega]
    split
    · rfl
    · exact hf k
  · intro x hx
    rcases List.mem_append.1 hx with hx | hx
    · exact hh.ok x hx
    · simp at hx
      subst hx
      exact ⟨hk, by simpa using hs, fun v hv => by rw [List.eq_of_mem_replicate hv]; exact ⟨by omega, by omega⟩⟩
  · rw [tot_append, tot_cons, tot_nil]; simp [Ob.size]; omega
set_option maxRecDepth 100000 in
set_option maxHeartbeats 400000 in
theorem lay_any (p m : Nat) (kind : Int) (s : Nat) (vb vl c3 c4 c5 c6 c7 : Value) (l : List Ob) (w : World)
    (hp : w.heap[p]? = some (.cells #[vb, vl, .map (some m), c3, c4, c5, c6, c7] 92 (0, 0)))
    (hh : HalfOf w vb (some m) l) (hl : w.ownsRow 0 2 1 vl l.length ((addrs 0 l).map (Value.int .i64)))
    (hk : I64 kind) (hs : s ≤ 65536) (ht : tot l + 16 + 8 * s ≤ 1048576) :
    Calls Try.prog 60 #[.pointer (some ⟨p, 0, none⟩), .int .i64 kind, .int .i64 s] w fun e w' => e = .returned (.int .i64 (tot l + 8)) ∧
      ∃ vb' vl', w'.heap[p]? = some (.cells #[vb', vl', .map (some m), c3, c4, c5, c6, c7] 92 (0, 0)) ∧ HalfOf w' vb' (some m) (l ++ [⟨kind, List.replicate s 0⟩]) ∧
        w'.ownsRow 0 2 1 vl' (l.length + 1) ((addrs 0 (l ++ [⟨kind, List.replicate s 0⟩])).map (Value.int .i64)) ∧
        Fr (fun k => k = p ∨ k = m ∨ vb.ownBlock = some k ∨ vl.ownBlock = some k) w w' ∧
        (∀ g, vb'.ownBlock = some g → vb.ownBlock = some g ∨ w.heap.size ≤ g) ∧ (∀ g, vl'.ownBlock = some g → vl.ownBlock = some g ∨ w.heap.size ≤ g) := by
  obtain ⟨i5, hi5, hz5, hs5, hb5⟩ := info_parts info5
  have htot := encs_length l
  obtain ⟨v1, w1, hr1, hown1, hgr1, hold1⟩ := run_append_zeros (P := Try.prog) w 0 33 3 33 5 i5 (.int .u8 0) .i64 .i64 1 und33 und3 hi5 hz5 hs5 hb5 rfl rfl vb (encs l).length _ hh.bytes (16 + 8 * s) (by unfold maxLen; omega) (by omega) (Nat.zero_le _)
  obtain ⟨g, cap, cur, rfl, hg, hgc, hcm⟩ := row_addr hown1 (by omega)
  rw [show (((16 + 8 * s : Nat)) : Int) = 16 + 8 * (s : Int) from by omega] at hr1
  have hp1 := hgr1.block p (Array.getElem?_eq_some_iff.1 hp).1 (row_ne hh.bytes hp (by decide))
  rw [hp] at hp1
  have c0 := blk_cell hp 0
  have f1 := blk_free hp1 0
  have c10 := blk_cell hp1 0
  obtain ⟨a0, cp0, rfl⟩ := row_form hh.bytes
  simp at c0 c10
  have hpg : p ≠ g := by rintro rfl; rw [hp1] at hg; simp at hg
  have hp2 := blk_set hp1 0 (.slice (some ⟨g, 0, none⟩) ((encs l).length + (16 + 8 * s)) cap)
  have hown2 := (Fr.setCell (S := fun k => k = p) w1 ⟨p, 0, none⟩ (.slice (some ⟨g, 0, none⟩) ((encs l).length + (16 + 8 * s)) cap) rfl).row hown1 (by intro k hk hkp; simp [Value.ownBlock] at hk; omega)
  rw [show (List.map (Value.int IntKind.u8) (encs l) ++ List.replicate (16 + 8 * s) (Value.int IntKind.u8 0)) = (encs l ++ List.replicate (16 + 8 * s) 0).map (Value.int .u8) from by simp] at hown2
  have c20 := blk_cell hp2 0
  simp at c20
  have H3 := Lib.hid (set_any p 0 g (encs l).length ((encs l).length + (16 + 8 * s)) cap kind _ _ c20 hpg hown2 (by omega) (by omega))
  have hsm : (encs l).length + (16 + 8 * s) ≤ 1048576 := by omega
  have Hg := Lib.hid hg; clear hg
  have Hp := Lib.hid hp; clear hp
  have Hp1 := Lib.hid hp1; clear hp1
  have Hp2 := Lib.hid hp2; clear hp2
  have Htot := Lib.hid htot; clear htot
  have Hr1 := Lib.hid hr1; clear hr1
  clear hi5 hz5 hs5 hb5
  go_enter Try.func60, Try.ntmps60
  go_wp2_with (first | (at_builtin; refine Lib.wpList_append_run _ rfl _ _ 33 3 rfl _ _ rfl rfl _ _ Hr1.out ?_))
  refine H3.out.mono ?_
  rintro e w3 ⟨rfl, hown3, hgr3⟩
  have hp3 := (hgr3.block p (Array.getElem?_eq_some_iff.1 Hp2.out).1 (by simpa using hpg)).trans Hp2.out
  have c30 := blk_cell hp3 0
  simp at c30
  have H4 := Lib.hid (set_any p 0 g ((encs l).length + 8) ((encs l).length + (16 + 8 * s)) cap s _ _ c30 hpg hown3 (by omega) (by omega))
  have Hp3 := Lib.hid hp3; clear hp3
  go_wp2_with fail
  rw [show ((encs l).length : Int) + 8 = (((encs l).length + 8 : Nat) : Int) from by omega]
  refine H4.out.mono ?_
  rintro e w4 ⟨rfl, hown4, hgr4⟩
  have hp4 := (hgr4.block p (Array.getElem?_eq_some_iff.1 Hp3.out).1 (by simpa using hpg)).trans Hp3.out
  simp only [List.setIfInBounds_toArray, List.set_cons_zero] at hp4
  have hfr4 : Fr (fun k => k = p ∨ (Value.slice a0 (encs l).length cp0).ownBlock = some k) w w4 := by
    have hgS : ∀ i, i < w.heap.size → i = g → (i = p ∨ (Value.slice a0 (encs l).length cp0).ownBlock = some i) := by
      rintro i hi rfl
      rcases hold1 i rfl with h | h
      · exact .inr h
      · omega
    refine (((Fr.of_grown hgr1 (S := fun k => k = p ∨ (Value.slice a0 (encs l).length cp0).ownBlock = some k) (fun k hk => .inr hk)).trans (Fr.setCell (S := fun k => k = p) w1 ⟨p, 0, none⟩ _ rfl) (fun _ h => h) (fun i _ h => .inl h)).trans (Fr.of_grown hgr3 (S := fun k => k = g) (fun k hk => by simpa using hk.symm)) (fun _ h => h) hgS).trans (Fr.of_grown hgr4 (S := fun k => k = g) (fun k hk => by simpa using hk.symm)) (fun _ h => h) hgS
  obtain ⟨f, hm, hf⟩ := hh.begins
  have hmp : m ≠ p := by
    obtain ⟨es, cl, hb, _⟩ := (show IMap w m f from hm)
    rintro rfl
    rw [Hp.out] at hb
    simp at hb
  have hm4 : IMap w4 m f := hfr4.imap hm (by
    rintro (h | h)
    · exact hmp h
    · exact row_ne_imap hh.bytes hm h.symm)
  obtain ⟨a1, cp1, rfl⟩ := row_form hl
  have hl4 : w4.ownsRow 0 2 1 (.slice a1 l.length cp1) l.length ((addrs 0 l).map (Value.int .i64)) := hfr4.row hl (by
    rintro k hk (h | h)
    · exact row_ne hl Hp.out (by decide) (h ▸ hk.symm)
    · exact rows_apart hh.bytes hl (by decide) h hk)
  obtain ⟨om, hput, him⟩ := hm4.put und87 i64k (tot l + 8) l.length
  have hput1 := hput w4.drew rfl
  have c41 := blk_cell hp4 1
  have c42 := blk_cell hp4 2
  have f41 := blk_free hp4 1
  simp only [List.getElem?_toArray, List.getElem?_cons_succ, List.getElem?_cons_zero] at c41 c42
  have Hp4 := Lib.hid hp4; clear hp4
  rw [← Htot.out] at hput1
  have Hput := Lib.hid hput; clear hput
  clear hm hown3 hown2 hown1 c30 c20 c10 c0
  go_wp2_with fail
  have hl6 : (ChangeMaps.setBlock w4.drew m om).ownsRow 0 2 1 (.slice a1 l.length cp1) l.length ((addrs 0 l).map (Value.int .i64)) :=
    (Fr.setBlock (S := fun k => k = m) w4.drew m om rfl).row (w := w4.drew) hl4 (by rintro k hk rfl; exact row_ne_imap hl4 hm4 hk.symm)
  obtain ⟨i2, hi2, hz2, hs2, hb2⟩ := info_parts info2
  have hln := len_le_tot l
  have hfr6 : Fr (fun k => k = m) w4 (ChangeMaps.setBlock w4.drew m om) := (Fr.drew _ w4).trans (Fr.setBlock (S := fun k => k = m) w4.drew m om rfl) (fun _ h => h) (fun _ _ h => h)
  have him6 := him w4.drew rfl
  have hp6 := hfr6.heap Hp4.out (Ne.symm hmp)
  obtain ⟨W6, hW6⟩ : ∃ W, W = ChangeMaps.setBlock w4.drew m om := ⟨_, rfl⟩
  rw [← hW6] at hl6 hfr6 him6 hp6 hput1
  clear hW6 him
  have c61 := blk_cell hp6 1
  have f61 := blk_free hp6 1
  simp only [List.getElem?_toArray, List.getElem?_cons_succ, List.getElem?_cons_zero] at c61
  have Hl6 := Lib.hid hl6; clear hl6
  have Hp6 := Lib.hid hp6; clear hp6
  go_region
  go_wp2_with (first | (at_builtin; refine wpList_append_own_at _ rfl _ _ 38 rfl 0 2 i2 (.int .i64 0) 1 8 und38 hi2 hz2 hs2 hb2 rfl (by decide) _ _ _ rfl (Hl6.out.alloc _) ⟨W6.heap.size, 0, none⟩ 1 1 [.int .i64 ((encs l).length + 8)] rfl rfl ?c1 ?c2 ?c3 ?c4 ?c5 ?_))
  case c1 => exact cell_one_new _ _ _
  case c2 => intro u hu; simp at hu; subst hu; rfl
  case c3 => unfold maxLen; omega
  case c4 => omega
  case c5 => exact Nat.zero_le _
  intro v8 w8 hown8 hgr8 _ hloc8
  have hp8 : w8.heap[p]? = _ := (hgr8.block p (by have := (Array.getElem?_eq_some_iff.1 Hp6.out).1; simp; omega) (row_ne hl Hp.out (by decide))).trans ((Fr.alloc (fun _ => False) W6 _).heap Hp6.out id)
  have c81 := blk_cell hp8 1
  have f81 := blk_free hp8 1
  simp only [List.getElem?_toArray, List.getElem?_cons_succ, List.getElem?_cons_zero] at c81
  have hp9 := blk_set hp8 1 v8
  have hown9 := (Fr.setCell (S := fun k => k = p) w8 ⟨p, 1, none⟩ v8 rfl).row hown8 (by rintro k hk rfl; exact row_ne hown8 hp8 (by decide) hk.symm)
  have hfr9 : Fr (fun k => k = p ∨ (Value.slice a1 l.length cp1).ownBlock = some k) W6 (w8.setCell ⟨p, 1, none⟩ v8) :=
    ((Fr.alloc (fun _ => False) W6 _).trans (Fr.of_grown hgr8 (S := fun k => (Value.slice a1 l.length cp1).ownBlock = some k) (fun k hk => hk)) (fun _ h => h.elim) (fun _ _ h => h)).trans (Fr.setCell (S := fun k => k = p) w8 ⟨p, 1, none⟩ v8 rfl) (fun _ h => .inr h) (fun _ _ h => .inl h)
  have Hown9 := Lib.hid hown9; clear hown9
  have Hp9 := Lib.hid hp9; clear hp9
  have Hp8 := Lib.hid hp8; clear hp8
  obtain ⟨g8, cap8, cur8, hv8, _, _, _⟩ := row_addr hown8 (by omega)
  subst hv8
  clear hown8 hgr8
  go_wp2
  go_ret
  have hgm : m ≠ g := fun e => row_ne_imap hown4 hm4 (by rw [e]; rfl)
  have hn6 : ∀ k, (Value.slice (some ⟨g, 0, none⟩) ((encs l).length + (16 + 8 * s)) cap).ownBlock = some k → k = g := fun k hk => by simpa [Value.ownBlock] using hk.symm
  have hown6 := hfr6.row hown4 (fun k hk e => hgm (e.symm.trans (hn6 k hk)))
  have hownF := hfr9.row hown6 (by
    rintro k hk (e | e)
    · exact hpg (e.symm.trans (hn6 k hk))
    · exact rows_apart hown6 Hl6.out (by decide) hk e)
  have himF := hfr9.imap him6 (by
    rintro (e | e)
    · exact hmp e
    · exact row_ne_imap Hl6.out him6 e.symm)
  rw [put8_new] at hownF
  refine ⟨by rw [← Htot.out]; rfl, _, _, by simpa using Hp9.out, HalfOf.laid hh hk hs ht hf hownF himF, ?_, ?_, hold1, ?_⟩
  · rw [addrs_append, show ((0 + tot l + 8 : Nat) : Int) = (tot l : Int) + 8 from by omega, List.map_append, ← Htot.out]
    exact Hown9.out
  · exact (hfr4.trans hfr6 (fun _ h => by rcases h with h | h; exact .inl h; exact .inr (.inr (.inl h))) (fun _ _ h => .inr (.inl h))).trans hfr9 (fun _ h => h) (fun _ _ h => by rcases h with h | h; exact .inl h; exact .inr (.inr (.inr h)))
  · intro k hk'
    rcases hloc8 with h | h
    · exact .inl (h ▸ hk')
    · right
      rw [h] at hk'
      have h4 := hfr4.size
      have h6 := hfr6.size
      simp at hk'
      omega
end Go.Proofs.Ytniifefmjdjebaa
