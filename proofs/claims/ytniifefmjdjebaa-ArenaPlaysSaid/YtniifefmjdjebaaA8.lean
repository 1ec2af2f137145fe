/- Walks: Make, New, Flip. -/
import Derived.Test.YtniifefmjdjebaaA7
import Derived.Deep.DeepCutAuto
namespace Go.Proofs.Ytniifefmjdjebaa
open Go.RowKit
set_option linter.unusedVariables false
set_option linter.unusedSimpArgs false

def AS.makeE (s : AS) (n : Int) : Int := if n < 0 ∨ n > 65536 then 1 else if roomB s n then 0 else 7
def AS.makeA (s : AS) (n : Int) : Int := if s.makeE n = 0 then tot s.used + 8 else 0
def AS.make (s : AS) (kind n : Int) : AS := if s.makeE n = 0 then { s with used := s.used ++ [⟨kind, List.replicate n.toNat 0⟩] } else s
/-- What is told of a world behind a call that may turn an arena. -/
def Turned (w w' : World) (p : Nat) (S : Nat → Prop) (s' : AS) : Prop := ∃ S', IsArena w' p S' s' ∧ Fr S w w' ∧ ∀ k, S' k → S k ∨ w.heap.size ≤ k
theorem Turned.same {w w' : World} {p : Nat} {S : Nat → Prop} {s' : AS} (h : IsArena w' p S s') (hf : Fr S w w') : Turned w w' p S s' := ⟨S, h, hf, fun _ h => .inl h⟩
theorem Fr.drewN (S : Nat → Prop) (w : World) (n : Nat) : Fr S w (w.drewN n) := ⟨rfl, rfl, rfl, Nat.le_refl _, fun _ _ _ => rfl⟩
theorem IsArena.drewN {w : World} {p : Nat} {S : Nat → Prop} {s : AS} (h : IsArena w p S s) (n : Nat) : IsArena (w.drewN n) p S s := h.keep (T := fun _ => False) (Fr.drewN _ w n) (fun _ _ e => e)
/-- 'lay' on the arena's used half. -/
theorem lay_arena (p : Nat) (kind n : Int) (S : Nat → Prop) (s : AS) (w : World) (h : IsArena w p S s) (hk : I64 kind) (h0 : 0 ≤ n) (h1 : n ≤ 65536) (hr : roomB s n = true) :
    Calls Try.prog 60 #[.pointer (some ⟨p, 0, none⟩), .int .i64 kind, .int .i64 n] w fun e w' => e = .returned (.int .i64 (tot s.used + 8)) ∧ Turned w w' p S { s with used := s.used ++ [⟨kind, List.replicate n.toNat 0⟩] } := by
  obtain ⟨k, rfl⟩ := Int.eq_ofNat_of_zero_le h0
  obtain ⟨vb, vl, m, vb', vl', mo', mv, hp, h1, h2, h3, h4, h5, h6, h7, h8, h9, h10, h11, hS⟩ := h
  have hroom := of_decide_eq_true hr
  refine (lay_any p m kind k vb vl _ _ _ _ _ s.used w hp h1 h2 hk (by omega) (by omega)).mono ?_
  rintro e w' ⟨rfl, vb2, vl2, hp2, hh2, hl2, hfr, ho1, ho2⟩
  rw [Int.toNat_natCast]
  have hb' : ∀ b, vb'.ownBlock = some b → ¬ (b = p ∨ b = m ∨ vb.ownBlock = some b ∨ vl.ownBlock = some b) := by
    rintro b hb (e | e | e | e)
    · exact row_ne h3.bytes hp (by decide) (by rw [← e, hb])
    · obtain ⟨f, hf, _⟩ := h1.begins
      exact row_ne_imap h3.bytes hf (by rw [← e, hb])
    · exact h5 b e hb
    · exact rows_apart h3.bytes h2 (by decide) hb e
  have hmap : ∀ b f, IMap w b f → b ≠ m → ¬ (b = p ∨ b = m ∨ vb.ownBlock = some b ∨ vl.ownBlock = some b) := by
    rintro b f hf hbm (e | e | e | e)
    · subst e
      obtain ⟨es, c, hb, _⟩ := hf
      rw [hp] at hb; simp at hb
    · exact hbm e
    · exact row_ne_imap h1.bytes hf e.symm
    · exact row_ne_imap h2 hf e.symm
  have hlt3 : ∀ b, vb'.ownBlock = some b → b < w.heap.size := fun b hb => row_lt h3.bytes hb
  refine ⟨rfl, _, ⟨vb2, vl2, m, vb', vl', mo', mv, hp2, hh2, by simpa using hl2, h3.keep hfr hb' (fun b hb => ?_), hfr.imap h4 (hmap mv _ h4 (Ne.symm h6)), ?_, h6, h7, h8, ?_, h10, h11, fun k => Iff.rfl⟩, hfr.mono ?_, ?_⟩
  · subst hb
    obtain ⟨f, hf, _⟩ := h3.begins
    exact hmap b f hf (fun e => h7 (by rw [e]))
  · intro b hb hb3
    rcases ho1 b hb with e | e
    · exact h5 b e hb3
    · have := hlt3 b hb3; omega
  · show tot (s.used ++ [_]) ≤ s.semi
    rw [tot_append, tot_cons, tot_nil]
    simp [Ob.size]
    omega
  · rintro i _ (e | e | e | e)
    · exact (hS i).2 (.inl e)
    · exact (hS i).2 (.inr (.inr (.inr (.inl e))))
    · exact (hS i).2 (.inr (.inl e))
    · exact (hS i).2 (.inr (.inr (.inl e)))
  · rintro i (e | e | e | e | e | e | e)
    · exact .inl ((hS i).2 (.inl e))
    · rcases ho1 i e with e | e
      · exact .inl ((hS i).2 (.inr (.inl e)))
      · exact .inr e
    · rcases ho2 i e with e | e
      · exact .inl ((hS i).2 (.inr (.inr (.inl e))))
      · exact .inr e
    · exact .inl ((hS i).2 (.inr (.inr (.inr (.inl e)))))
    · exact .inl ((hS i).2 (.inr (.inr (.inr (.inr (.inl e))))))
    · exact .inl ((hS i).2 (.inr (.inr (.inr (.inr (.inr (.inl e)))))))
    · exact .inl ((hS i).2 (.inr (.inr (.inr (.inr (.inr (.inr e)))))))
theorem Turned.drewN {w w' : World} {n : Nat} {p : Nat} {S : Nat → Prop} {s' : AS} (h : Turned (w.drewN n) w' p S s') : Turned w w' p S s' := by
  obtain ⟨S', h1, h2, h3⟩ := h
  exact ⟨S', h1, (Fr.drewN S w n).trans h2 (fun _ h => h) (fun _ _ h => h), h3⟩
set_option maxHeartbeats 400000 in
theorem Make_any (p : Nat) (kind n : Int) (S : Nat → Prop) (s : AS) (w : World) (h : IsArena w p S s) (hk : I64 kind) :
    Calls Try.prog 23 #[.pointer (some ⟨p, 0, none⟩), .int .i64 kind, .int .i64 n] w fun e w' => e = .returned (.tuple #[.int .i64 (s.makeA n), .int .i64 (s.makeE n)]) ∧ Turned w w' p S (s.make kind n) := by
  have H := Lib.hid (room_any p n S s w h)
  by_cases n0 : n < 0
  · have He := Lib.hid (show s.makeE n = 1 from if_pos (.inl n0))
    have Hm := Lib.hid (show s.make kind n = s from if_neg (by rw [He.out]; decide))
    have Hq := Lib.hid (show s.makeA n = 0 from if_neg (by rw [He.out]; decide))
    have Ha := Lib.hid (Turned.same h (Fr.refl S w)); clear h
    go_enter Try.func23, Try.ntmps23
    go_wp2_with fail
    go_ret2
    exact ⟨by rw [He.out, Hq.out]; rfl, by rw [Hm.out]; exact Ha.out⟩
  · by_cases n1 : n > 65536
    · have He := Lib.hid (show s.makeE n = 1 from if_pos (.inr n1))
      have Hm := Lib.hid (show s.make kind n = s from if_neg (by rw [He.out]; decide))
      have Hq := Lib.hid (show s.makeA n = 0 from if_neg (by rw [He.out]; decide))
      have Ha := Lib.hid (Turned.same h (Fr.refl S w)); clear h
      go_enter Try.func23, Try.ntmps23
      go_wp2_with fail
      go_ret2
      exact ⟨by rw [He.out, Hq.out]; rfl, by rw [Hm.out]; exact Ha.out⟩
    · cases hr : roomB s n with
      | false =>
        rw [hr] at H
        have He := Lib.hid (show s.makeE n = 7 from by unfold AS.makeE; rw [if_neg (fun h => h.elim n0 n1), hr]; rfl)
        have Hm := Lib.hid (show s.make kind n = s from if_neg (by rw [He.out]; decide))
        have Hq := Lib.hid (show s.makeA n = 0 from if_neg (by rw [He.out]; decide))
        have Ha := Lib.hid h; clear h hr
        go_enter Try.func23, Try.ntmps23
        go_wp2_with fail
        refine H.out.mono ?_
        rintro e w' ⟨rfl, k, rfl⟩
        go_wp2
        go_ret2
        exact ⟨by rw [He.out, Hq.out]; rfl, by rw [Hm.out]; exact Turned.same (Ha.out.drewN k) (Fr.drewN _ _ _)⟩
      | true =>
        have He := Lib.hid (show s.makeE n = 0 from by unfold AS.makeE; rw [if_neg (fun h => h.elim n0 n1), hr]; rfl)
        have Hm := Lib.hid (show s.make kind n = _ from if_pos He.out)
        have Hq := Lib.hid (show s.makeA n = _ from if_pos He.out)
        have H2 := Lib.hid (fun k => lay_arena p kind n S s (w.drewN k) (h.drewN k) hk (by omega) (by omega) hr)
        rw [hr] at H
        clear h hr hk
        go_enter Try.func23, Try.ntmps23
        go_wp2_with fail
        refine H.out.mono ?_
        rintro e w' ⟨rfl, k, rfl⟩
        go_wp2_with fail
        refine (H2.out k).mono ?_
        rintro e w' ⟨rfl, ht⟩
        have Ht := Lib.hid ht; clear ht
        go_wp2
        go_ret2
        exact ⟨by rw [He.out, Hq.out]; rfl, by rw [Hm.out]; exact Ht.out.drewN⟩

def AS.new (n : Int) : AS := ⟨[], [], fun _ => none, n.toNat⟩
def NewOk (w : World) (n : Int) (e : Ending) (w' : World) : Prop := ∃ p S, e = .returned (.tuple #[.pointer (some ⟨p, 0, none⟩), .int .i64 0]) ∧ IsArena w' p S (AS.new n) ∧ Fr (fun _ => False) w w' ∧ ∀ k, S k → w.heap.size ≤ k
set_option maxHeartbeats 400000 in
theorem New_bad (n : Int) (w : World) (h : n < 256 ∨ n > 1048576) : Calls Try.prog 21 #[.int .i64 n] w fun e w' => e = .returned (.tuple #[.pointer none, .int .i64 1]) ∧ w' = w := by
  by_cases n0 : n < 256
  · clear h
    go_enter Try.func21, Try.ntmps21
    go_wp2
    go_ret2
    exact ⟨rfl, rfl⟩
  · have n1 : n > 1048576 := by omega
    clear h
    go_enter Try.func21, Try.ntmps21
    go_wp2
    go_ret2
    exact ⟨rfl, rfl⟩
set_option maxHeartbeats 400000 in
theorem New_any (n : Int) (w : World) (h0 : 256 ≤ n) (h1 : n ≤ 1048576) : Calls Try.prog 21 #[.int .i64 n] w (NewOk w n) := by
  have hmm := @run_makeMap Try.prog
  go_enter Try.func21, Try.ntmps21
  go_wp2
  go_ret2
  have hp := heap_alloc_new ((w.alloc (.map #[] 0)).alloc (.map #[] 0)) (.cells #[.slice none 0 0, .slice none 0 0, .map (some w.heap.size), .slice none 0 0, .slice none 0 0, .map none, .map (some (w.heap.size + 1)), .int .i64 n] 92)
  have hma := IMap.made w
  have h2 := IMap.made (w.alloc (.map #[] 0))
  have f1 := Fr.alloc (fun _ => False) w (.map #[] 0)
  have f2 := Fr.alloc (fun _ => False) (w.alloc (.map #[] 0)) (.map #[] 0)
  have f3 := Fr.alloc (fun _ => False) ((w.alloc (.map #[] 0)).alloc (.map #[] 0)) (.cells #[.slice none 0 0, .slice none 0 0, .map (some w.heap.size), .slice none 0 0, .slice none 0 0, .map none, .map (some (w.heap.size + 1)), .int .i64 n] 92)
  have hs1 : (w.alloc (.map #[] 0)).heap.size = w.heap.size + 1 := by simp
  have hs2 : ((w.alloc (.map #[] 0)).alloc (.map #[] 0)).heap.size = w.heap.size + 1 + 1 := by simp
  rw [hs2] at hp
  rw [hs1] at h2
  obtain ⟨k, rfl⟩ := Int.eq_ofNat_of_zero_le (show 0 ≤ n by omega)
  refine ⟨_, _, rfl, ⟨.slice none 0 0, .slice none 0 0, w.heap.size, .slice none 0 0, .slice none 0 0, none, w.heap.size + 1, hp,
    ⟨World.ownsRow_nil _ _ _ _, ⟨_, f3.imap (f2.imap hma id) id, fun _ => rfl⟩, by simp [AS.new], by simp [AS.new, tot_nil]⟩, World.ownsRow_nil _ _ _ _,
    ⟨World.ownsRow_nil _ _ _ _, ⟨fun _ => none, fun _ => rfl, fun _ => rfl⟩, by simp [AS.new], by simp [AS.new, tot_nil]⟩, f3.imap h2 id, by simp [Value.ownBlock], by omega, by simp, by simp, by simp [AS.new, tot_nil], by simp [AS.new]; omega, by simp [AS.new]; omega, fun k => Iff.rfl⟩,
    (f1.trans f2 (fun _ h => h) (fun _ _ h => h)).trans f3 (fun _ h => h) (fun _ _ h => h), ?_⟩
  rintro i (e | e | e | e | e | e | e)
  · omega
  · simp [Value.ownBlock] at e
  · simp [Value.ownBlock] at e
  · omega
  · simp [Value.ownBlock] at e
  · simp at e
  · omega
/-- A builtin of one operand whose run is known as an equation. -/
theorem wpList_clear_run {P : Program} (w : World) {ops : Array Oper} {rest : List Oper} {o : Oper} {a : Act} {Q : Exit → Act → World → Prop} (hgd : o.guard = none) (x : Operand) (t : TypeId)
    (ho : o.op = .call { callee := .builtin .clear, args := #[x], argTypes := #[t] }) (vx : Value) (hx : a.eval x = vx)
    (v' : Value) (w' : World) (hr : (Builtin.clear_ #[t] o.type #[vx]).run P w = .ok v' w') (h : wpList P ops Q rest (a.put o.dst v') w') : wpList P ops Q (o :: rest) a w := by
  refine wpList_plain hgd fun K hK => ?_
  unfold Oper.wp execOp
  simp only [ho, resolve, invoke, builtin, Sem.run_bind, Sem.run_pure, Result.andThen_ok, List.map_toArray, List.map_cons, List.map_nil, hx, hr]
  exact hK _ _ h
set_option maxRecDepth 100000 in
set_option maxHeartbeats 400000 in
theorem Flip_any (p : Nat) (S : Nat → Prop) (s : AS) (w : World) (h : IsArena w p S s) :
    Calls Try.prog 33 #[.pointer (some ⟨p, 0, none⟩)] w fun e w' => e = .returned (.tuple #[]) ∧ Turned w w' p S ⟨[], s.used, fun _ => none, s.semi⟩ := by
  obtain ⟨vb, vl, m, vb', vl', mo', mv, hp, h1, h2, h3, h4, h5, h6, h7, h8, h9, h10, h11, hS⟩ := h
  have hmm := @run_makeMap Try.prog
  obtain ⟨x1, y1, rfl⟩ := row_form h1.bytes
  obtain ⟨x2, y2, rfl⟩ := row_form h2
  have c0 := blk_cell hp 0
  have c1 := blk_cell hp 1
  have c2 := blk_cell hp 2
  have c3 := blk_cell hp 3
  have c4 := blk_cell hp 4
  have c5 := blk_cell hp 5
  have c6 := blk_cell hp 6
  have f0 := blk_free hp 0
  have f1 := blk_free hp 1
  have f2 := blk_free hp 2
  have f3 := blk_free hp 3
  have f4 := blk_free hp 4
  have f5 := blk_free hp 5
  simp only [List.getElem?_toArray, List.getElem?_cons_succ, List.getElem?_cons_zero] at c0 c1 c2 c3 c4 c5 c6
  have Hp := Lib.hid hp; clear hp
  have HS := Lib.hid (And.intro h6 hS); clear hS
  have Hx := Lib.hid (And.intro h1 (And.intro h2 (And.intro h3 h4)))
  clear h1 h2 h3 h4 h5 h6 h7 h8
  go_enter Try.func33, Try.ntmps33
  have hq0 := blk_set (blk_set (blk_set Hp.out 3 (.slice x1 (encs s.used).length y1)) 4 (.slice x2 s.used.length y2)) 5 (.map (some m))
  have hfr0 : Fr (fun k => k = p) w (((w.setCell ⟨p, 3, none⟩ (.slice x1 (encs s.used).length y1)).setCell ⟨p, 4, none⟩ (.slice x2 s.used.length y2)).setCell ⟨p, 5, none⟩ (.map (some m))) :=
    ((Fr.setCell (S := fun k => k = p) w _ _ rfl).trans (Fr.setCell (S := fun k => k = p) _ _ _ rfl) (fun _ h => h) (fun _ _ h => h)).trans (Fr.setCell (S := fun k => k = p) _ _ _ rfl) (fun _ h => h) (fun _ _ h => h)
  have Hq0 := Lib.hid hq0; clear hq0
  go_upto_region 1 with fail
  obtain ⟨W1, hW1⟩ : ∃ W, W = (((w.setCell ⟨p, 3, none⟩ (.slice x1 (encs s.used).length y1)).setCell ⟨p, 4, none⟩ (.slice x2 s.used.length y2)).setCell ⟨p, 5, none⟩ (.map (some m))) := ⟨_, rfl⟩
  rw [← hW1] at Hq0 hfr0 ⊢
  clear hW1 c0 c1 c2 c3 c4 c5 c6 f0 f1 f2 f3 f4 f5
  have hq1 := Hq0.out
  simp only [List.setIfInBounds_toArray, List.set_cons_succ, List.set_cons_zero] at hq1
  have hq2 := (Fr.alloc (fun _ => False) W1 (.map #[] 0)).heap hq1 id
  have c0 := blk_cell hq2 0
  have c1 := blk_cell hq2 1
  have c2 := blk_cell hq2 2
  have c6 := blk_cell hq2 6
  have f0 := blk_free hq2 0
  have f1 := blk_free hq2 1
  have f2 := blk_free hq2 2
  simp only [List.getElem?_toArray, List.getElem?_cons_succ, List.getElem?_cons_zero] at c0 c1 c2 c6
  have Hq1 := Lib.hid hq1; clear hq1
  have Hq2 := Lib.hid hq2; clear hq2
  go_upto_region 2 with fail
  have hq3 := blk_set (blk_set (blk_set Hq2.out 0 (.slice none 0 0)) 1 (.slice none 0 0)) 2 (.map (some W1.heap.size))
  have hfr1 : Fr (fun k => k = p) W1 ((((W1.alloc (.map #[] 0)).setCell ⟨p, 0, none⟩ (.slice none 0 0)).setCell ⟨p, 1, none⟩ (.slice none 0 0)).setCell ⟨p, 2, none⟩ (.map (some W1.heap.size))) :=
    (((Fr.alloc (fun _ => False) W1 _).trans (Fr.setCell (S := fun k => k = p) _ _ _ rfl) (fun _ h => h.elim) (fun _ _ h => h)).trans (Fr.setCell (S := fun k => k = p) _ _ _ rfl) (fun _ h => h) (fun _ _ h => h)).trans (Fr.setCell (S := fun k => k = p) _ _ _ rfl) (fun _ h => h) (fun _ _ h => h)
  have hnew : IMap ((((W1.alloc (.map #[] 0)).setCell ⟨p, 0, none⟩ (.slice none 0 0)).setCell ⟨p, 1, none⟩ (.slice none 0 0)).setCell ⟨p, 2, none⟩ (.map (some W1.heap.size))) W1.heap.size (fun _ => none) := by
    have hlt : p < W1.heap.size := (Array.getElem?_eq_some_iff.1 Hq1.out).1
    have h0 := IMap.made W1
    exact ((((Fr.setCell (S := fun k => k = p) _ _ _ rfl).trans (Fr.setCell (S := fun k => k = p) _ _ _ rfl) (fun _ h => h) (fun _ _ h => h)).trans (Fr.setCell (S := fun k => k = p) _ _ _ rfl) (fun _ h => h) (fun _ _ h => h))).imap h0 (by show ¬ W1.heap.size = p; omega)
  obtain ⟨W2, hW2⟩ : ∃ W, W = ((((W1.alloc (.map #[] 0)).setCell ⟨p, 0, none⟩ (.slice none 0 0)).setCell ⟨p, 1, none⟩ (.slice none 0 0)).setCell ⟨p, 2, none⟩ (.map (some W1.heap.size))) := ⟨_, rfl⟩
  rw [← hW2] at hq3 hfr1 hnew ⊢
  clear hW2 c0 c1 c2 c6 f0 f1 f2
  simp only [List.setIfInBounds_toArray, List.set_cons_succ, List.set_cons_zero] at hq3
  have c6 := blk_cell hq3 6
  simp only [List.getElem?_toArray, List.getElem?_cons_succ, List.getElem?_cons_zero] at c6
  have Hq3 := Lib.hid hq3; clear hq3
  have hlt1 := hfr0.size
  obtain ⟨h1, h2, h3, h4⟩ := Hx.out
  have hfr2 : Fr (fun k => k = p) w W2 := hfr0.trans hfr1 (fun _ h => h) (fun _ _ h => h)
  have hnp : ∀ b f, IMap w b f → b ≠ p := by
    rintro b f ⟨es, c, hb, _⟩ rfl
    rw [Hp.out] at hb; simp at hb
  have h4' : IMap W2 mv s.moved := hfr2.imap h4 (hnp _ _ h4)
  obtain ⟨om, hclr, him⟩ := h4'.clear und90 0
  have hclr2 := Lib.hid (hclr W2 rfl)
  have him2 := him W2 rfl
  clear hclr him
  clear h1 h2 h3 h4 h4'
  go_wp2_with (refine wpList_clear_run _ rfl _ 90 rfl _ rfl _ _ hclr2.out ?_)
  go_end0
  obtain ⟨h1, h2, h3, h4⟩ := Hx.out
  have hlt := h4.lt
  have hmv : mv < W1.heap.size := by omega
  have hfr3 : Fr (fun k => k = mv) W2 (ChangeMaps.setBlock W2 mv om) := Fr.setBlock W2 mv om rfl
  have hfr : Fr (fun k => k = p ∨ k = mv) w (ChangeMaps.setBlock W2 mv om) := hfr2.trans hfr3 (fun _ h => .inl h) (fun _ _ h => .inr h)
  have hpmv : mv ≠ p := hnp _ _ h4
  obtain ⟨f, hf1, hf2⟩ := h1.begins
  have hlm : m < w.heap.size := IMap.lt hf1
  have hmp : m ≠ p := hnp _ _ hf1
  refine ⟨rfl, _, ⟨.slice none 0 0, .slice none 0 0, W1.heap.size, _, _, some m, mv, hfr3.heap Hq3.out (Ne.symm hpmv), ⟨World.ownsRow_nil _ _ _ _, ⟨_, hfr3.imap hnew (by show ¬ W1.heap.size = mv; omega), fun _ => rfl⟩, by simp, by simp [tot_nil]⟩, World.ownsRow_nil _ _ _ _,
    ⟨hfr.row h1.bytes ?_, ⟨f, hfr.omap hf1 ?_, hf2⟩, h1.ok, h1.small⟩, him2, by simp [Value.ownBlock], by omega, by simp; omega, by simp; exact Ne.symm HS.out.1, by simp [tot_nil], h10, h11, fun k => Iff.rfl⟩, hfr.mono ?_, ?_⟩
  · rintro k hk (e | e)
    · exact row_ne h1.bytes Hp.out (by decide) (by rw [← e, hk])
    · exact row_ne_imap h1.bytes h4 (by rw [← e, hk])
  · rintro b hb (e | e)
    · obtain rfl : m = b := by simpa using hb
      exact hmp e
    · obtain rfl : m = b := by simpa using hb
      exact HS.out.1 e
  · rintro i _ (e | e)
    · exact (HS.out.2 i).2 (.inl e)
    · exact (HS.out.2 i).2 (.inr (.inr (.inr (.inr (.inr (.inr e))))))
  · rintro i (e | e | e | e | e | e | e)
    · exact .inl ((HS.out.2 i).2 (.inl e))
    · simp [Value.ownBlock] at e
    · simp [Value.ownBlock] at e
    · exact .inr (by omega)
    · exact .inl ((HS.out.2 i).2 (.inr (.inl e)))
    · exact .inl ((HS.out.2 i).2 (.inr (.inr (.inr (.inl (by simpa using e.symm))))))
    · exact .inl ((HS.out.2 i).2 (.inr (.inr (.inr (.inr (.inr (.inr e)))))))
end Go.Proofs.Ytniifefmjdjebaa
