/- Walks: the document's arena: New, Put, Flip. -/
import Derived.Test.YtniifefmjdjebaaF4
namespace Go.Proofs.Ytniifefmjdjebaa
open Go.RowKit
set_option linter.unusedVariables false
set_option linter.unusedSimpArgs false

def TurnedR (w w' : World) (q : Nat) (S : Nat → Prop) (s' : AS) : Prop := ∃ S', IsRef w' q S' s' ∧ Fr S w w' ∧ ∀ k, S' k → S k ∨ w.heap.size ≤ k
def NewRef (w : World) (n : Int) (e : Ending) (w' : World) : Prop := ∃ q S, e = .returned (.tuple #[.pointer (some ⟨q, 0, none⟩), .int .i64 0]) ∧ IsRef w' q S (AS.new n) ∧ Fr (fun _ => False) w w' ∧ ∀ k, S k → w.heap.size ≤ k
set_option maxHeartbeats 400000 in
theorem refNew_bad (n : Int) (w : World) (h : n < 256 ∨ n > 1048576) : Calls Try.prog 36 #[.int .i64 n] w fun e w' => e = .returned (.tuple #[.pointer none, .int .i64 1]) ∧ w' = w := by
  rcases Classical.em (n < 256) with h0 | h0
  · clear h
    go_enter Try.func36, Try.ntmps36
    go_wp2
    go_ret2
    exact ⟨rfl, rfl⟩
  · have h1 : n > 1048576 := h.elim (fun h => absurd h h0) id
    clear h
    go_enter Try.func36, Try.ntmps36
    go_wp2
    go_ret2
    exact ⟨rfl, rfl⟩
set_option maxRecDepth 100000 in
set_option maxHeartbeats 400000 in
theorem refNew_any (n : Int) (w : World) (h0 : 256 ≤ n) (h1 : n ≤ 1048576) : Calls Try.prog 36 #[.int .i64 n] w (NewRef w n) := by
  have h2 : ¬ n < 256 := by omega
  have h3 : ¬ n > 1048576 := by omega
  obtain ⟨m, rfl⟩ := Int.eq_ofNat_of_zero_le (show 0 ≤ n by omega)
  go_enter Try.func36, Try.ntmps36
  go_wp2
  go_ret2
  refine ⟨w.heap.size, fun k => k = w.heap.size, rfl, ⟨nilRow, nilRow, [], [], fun _ => 0, ⟨?_, ⟨World.ownsRow_nil _ _ _ _, fun i h x hi => by simp at hi⟩, ⟨World.ownsRow_nil _ _ _ _, fun i h x hi => by simp at hi⟩, List.Pairwise.nil, by simp [nilRow, Value.ownBlock], by simp [AS.new]⟩, fun k => by simp [RBlocks, nilRow, Value.ownBlock]⟩, ?_, fun k hk => by omega⟩
  · exact heap_alloc_new w (.cells #[.int .i64 m, .int .i64 0, .slice none 0 0, .slice none 0 0] 107)
  · exact Fr.alloc _ w _
theorem slotE_zero {o : Option Ob} {n : Int} (h : slotE o n = 0) : ∃ x, o = some x ∧ 0 ≤ n ∧ n < x.vs.length := by
  cases o with
  | none => simp [slotE] at h
  | some x =>
    refine ⟨x, rfl, ?_⟩
    by_cases hn : n < 0 ∨ n ≥ x.vs.length
    · simp [slotE, hn] at h
    · omega
set_option maxRecDepth 100000 in
set_option maxHeartbeats 1000000 in
theorem refPut_any (q : Nat) (a n v : Int) (S : Nat → Prop) (s : AS) (w : World) (h : IsRef w q S s) (hg : s.Good) :
    Calls Try.prog 71 #[.pointer (some ⟨q, 0, none⟩), .int .i64 a, .int .i64 n, .int .i64 v] w fun e w' => e = .returned (.int .i64 (slotE (findOb 0 s.used a) n)) ∧ IsRef w' q S (s.put a n v) ∧ Fr S w w' := by
  have H := Lib.hid (And.intro h hg); clear h hg
  by_cases he : slotE (findOb 0 s.used a) n = 0
  · obtain ⟨x, hx, n0, n1⟩ := slotE_zero he
    obtain ⟨i, rfl⟩ := Int.eq_ofNat_of_zero_le n0
    have Hx := Lib.hid (And.intro hx he)
    have hxl := (H.out.2.used x (by
      obtain ⟨l1, l2, hl, _⟩ := findOb_split _ _ _ _ hx
      rw [hl]; simp)).2.1
    clear hx he
    go_enter Try.func71, Try.ntmps71
    go_wp2_with fail
    refine (refGet_any q a i S s _ H.out.1 H.out.2).mono ?_
    rw [Hx.out.2]
    obtain ⟨y, hy⟩ : ∃ y, y = getV (findOb 0 s.used a) i := ⟨_, rfl⟩
    rw [← hy]
    clear hy
    rintro e w1 ⟨rfl, nd, rfl⟩
    have H1 := Lib.hid (H.out.1.drewN nd)
    obtain ⟨vl, va, hl, ha, tl, h1, h2⟩ := H1.out
    have HR := Lib.hid (And.intro h1 h2)
    clear h1 h2
    go_wp2_with fail
    refine (refAt_any q a vl va hl ha tl s _ HR.out.1 H.out.2).mono ?_
    rintro e w1 ⟨u, rfl, hf, rfl⟩
    rcases hf with ⟨j, o, x', hj, hx', hadr, hfd, rfl⟩ | ⟨hfd, rfl⟩
    · rw [Hx.out.1] at hfd
      obtain rfl := Option.some.inj hfd
      obtain ⟨ob, ov⟩ := o
      have hob := HR.out.1.used.obs j _ x hj hx'
      obtain ⟨av, cv, hov⟩ := row_form hob.row
      simp only at hov
      subst hov
      have hc2 := blk_cell hob.cells 2
      simp only [List.getElem?_toArray, List.getElem?_cons_succ, List.getElem?_cons_zero] at hc2
      have hr := hob.row
      simp only at hr hc2
      obtain ⟨g, c, _, e1, _, _, _⟩ := row_addr hr (by omega)
      simp only [Value.slice.injEq, true_and] at e1
      obtain ⟨rfl, rfl⟩ := e1
      have hcell := row_int hr (j := i) (by omega)
      have hfz : ∀ j, (w.drewN nd).frozen? ⟨g, j, none⟩ = false := hr.frozenAt
      obtain ⟨z, hz⟩ : ∃ z, z = x.vs[i]?.getD 0 := ⟨_, rfl⟩
      rw [← hz] at hcell
      have HJ := Lib.hid (And.intro hj (And.intro hx' hadr))
      simp only [optr]
      clear hob hr hz hj hx' hadr hfd
      go_wp2
      go_ret
      have hst := HR.out.1.store (j := i) (v := v) HJ.out.1 HJ.out.2.1
      have hju : j < s.used.length := (List.getElem?_eq_some_iff.1 HJ.out.2.1).1
      have hput : s.put a i v = { s with used := s.used.set j ⟨x.kind, x.vs.set i v⟩ } := by
        unfold AS.put
        rw [Hx.out.2, if_pos rfl]
        have e5 := setOb_get s.used 0 j i v hju
        rw [show ((0 : Nat) : Int) + tot (s.used.take j) + 8 = a from by rw [← HJ.out.2.2]; unfold adr; omega, HJ.out.2.1] at e5
        simp only [Int.toNat_natCast, Option.getD_some] at e5 ⊢
        rw [e5]
      refine ⟨by rw [Hx.out.2]; rfl, ⟨vl, va, hl, ha, tl, by rw [hput]; exact hst.1, HR.out.2⟩, ?_⟩
      exact (Fr.drewN S w nd).trans (hst.2.mono (fun k _ hk => (HR.out.2 k).2 hk)) (fun _ h => h) (fun _ _ h => h)
    · rw [Hx.out.1] at hfd; cases hfd
  · have hb : (slotE (findOb 0 s.used a) n == 0) = false := by simpa using he
    have He := Lib.hid he
    obtain ⟨y, hy⟩ : ∃ y, y = getV (findOb 0 s.used a) n := ⟨_, rfl⟩
    obtain ⟨z, hz⟩ : ∃ z, z = slotE (findOb 0 s.used a) n := ⟨_, rfl⟩
    have Hz := Lib.hid hz
    rw [← hz] at hb
    clear he
    go_enter Try.func71, Try.ntmps71
    go_wp2_with fail
    refine (refGet_any q a n S s _ H.out.1 H.out.2).mono ?_
    rw [← hy, ← hz]
    clear hy hz
    rintro e w1 ⟨rfl, nd, rfl⟩
    go_wp2
    go_ret
    exact ⟨by rw [← Hz.out]; rfl, by unfold AS.put; rw [if_neg He.out]; exact H.out.1.drewN nd, Fr.drewN S w nd⟩
end Go.Proofs.Ytniifefmjdjebaa
