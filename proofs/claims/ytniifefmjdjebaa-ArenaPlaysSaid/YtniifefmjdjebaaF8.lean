/- The two arenas side by side; walks: done, Same, asked. -/
import Derived.Test.YtniifefmjdjebaaF7
import Derived.Deep.RegionHeld3
namespace Go.Proofs.Ytniifefmjdjebaa
open Go.RowKit
set_option linter.unusedVariables false
set_option linter.unusedSimpArgs false

structure Two (w0 w : World) (p : Nat) (S : Nat → Prop) (s : AS) (q : Nat) (R : Nat → Prop) (t : AS) : Prop where
  a : IsArena w p S s
  r : IsRef w q R t
  ap : ∀ k, S k → ¬ R k
  fr : Fr (fun _ => False) w0 w
  newA : ∀ k, S k → w0.heap.size ≤ k
  newR : ∀ k, R k → w0.heap.size ≤ k
section
variable {w0 w w' : World} {p : Nat} {S : Nat → Prop} {s s' : AS} {q : Nat} {R : Nat → Prop} {t t' : AS}
theorem Two.kept (h : Two w0 w p S s q R t) (hf : Fr (fun _ => False) w w') : Two w0 w' p S s q R t :=
  ⟨h.a.keep hf (fun _ _ h => h), h.r.keep hf (fun _ _ h => h), h.ap, h.fr.trans hf (fun _ h => h) (fun _ _ h => h), h.newA, h.newR⟩
theorem Two.drewN (h : Two w0 w p S s q R t) (n : Nat) : Two w0 (w.drewN n) p S s q R t := h.kept (Fr.drewN _ w n)
theorem Two.turnA (h : Two w0 w p S s q R t) (ht : Turned w w' p S s') : ∃ S', Two w0 w' p S' s' q R t := by
  obtain ⟨S', h1, h2, h3⟩ := ht
  refine ⟨S', h1, h.r.keep h2 (fun k hr hs => h.ap k hs hr), fun k hs hr => ?_, h.fr.trans h2 (fun _ h => h) (fun i hi hs => by have := h.newA i hs; omega), fun k hs => ?_, h.newR⟩
  · rcases h3 k hs with h4 | h4
    · exact h.ap k h4 hr
    · have := h.r.lt hr; omega
  · rcases h3 k hs with h4 | h4
    · exact h.newA k h4
    · have := h.fr.size; omega
theorem Two.turnR (h : Two w0 w p S s q R t) (ht : TurnedR w w' q R t') : ∃ R', Two w0 w' p S s q R' t' := by
  obtain ⟨R', h1, h2, h3⟩ := ht
  refine ⟨R', h.a.keep h2 (fun k hs hr => h.ap k hs hr), h1, fun k hs hr => ?_, h.fr.trans h2 (fun _ h => h) (fun i hi hs => by have := h.newR i hs; omega), h.newA, fun k hr => ?_⟩
  · rcases h3 k hr with h4 | h4
    · exact h.ap k hs h4
    · have := h.a.lt hs; omega
  · rcases h3 k hr with h4 | h4
    · exact h.newR k h4
    · have := h.fr.size; omega
end
/-- The same, with calls' own copies beside it. -/
structure TwoC (w0 w : World) (p : Nat) (S : Nat → Prop) (s : AS) (q : Nat) (R : Nat → Prop) (t : AS) (L : List (Nat × CallD)) : Prop where
  two : Two w0 w p S s q R t
  c : ∀ e ∈ L, w.heap[e.1]? = some (.cells #[.int .i64 e.2.kind, .int .i64 e.2.n, .int .i64 e.2.m, .int .i64 e.2.at_, .int .i64 e.2.v] 49 (0, 0)) ∧ ¬ S e.1 ∧ ¬ R e.1
section
variable {w0 w w' : World} {p : Nat} {S : Nat → Prop} {s s' : AS} {q : Nat} {R : Nat → Prop} {t t' : AS} {cb : Nat} {c : CallD} {L : List (Nat × CallD)}
theorem TwoC.cells (h : TwoC w0 w p S s q R t ((cb, c) :: L)) : w.cell? ⟨cb, 0, none⟩ = some (.int .i64 c.kind) ∧ w.cell? ⟨cb, 1, none⟩ = some (.int .i64 c.n) ∧ w.cell? ⟨cb, 2, none⟩ = some (.int .i64 c.m) ∧ w.cell? ⟨cb, 3, none⟩ = some (.int .i64 c.at_) ∧ w.cell? ⟨cb, 4, none⟩ = some (.int .i64 c.v) :=
  have h1 := (h.c _ List.mem_cons_self).1
  ⟨blk_cell h1 0, blk_cell h1 1, blk_cell h1 2, blk_cell h1 3, blk_cell h1 4⟩
theorem TwoC.tail {e : Nat × CallD} (h : TwoC w0 w p S s q R t (e :: L)) : TwoC w0 w p S s q R t L := ⟨h.two, fun x hx => h.c x (List.mem_cons_of_mem _ hx)⟩
theorem TwoC.kept (h : TwoC w0 w p S s q R t L) (hf : Fr (fun _ => False) w w') : TwoC w0 w' p S s q R t L :=
  ⟨h.two.kept hf, fun e he => ⟨hf.heap (h.c e he).1 id, (h.c e he).2⟩⟩
theorem TwoC.withC (h : TwoC w0 w p S s q R t L) (c : CallD) : TwoC w0 (w.alloc (.cells #[.int .i64 c.kind, .int .i64 c.n, .int .i64 c.m, .int .i64 c.at_, .int .i64 c.v] 49)) p S s q R t ((w.heap.size, c) :: L) := by
  have h1 := h.kept (Fr.alloc _ w (.cells #[.int .i64 c.kind, .int .i64 c.n, .int .i64 c.m, .int .i64 c.at_, .int .i64 c.v] 49))
  refine ⟨h1.two, fun e he => ?_⟩
  rcases List.mem_cons.1 he with rfl | he
  · exact ⟨heap_alloc_new w _, fun e => by have := h.two.a.lt e; simp only at this; omega, fun e => by have := h.two.r.lt e; simp only at this; omega⟩
  · exact h1.c e he
theorem TwoC.drewN (h : TwoC w0 w p S s q R t L) (n : Nat) : TwoC w0 (w.drewN n) p S s q R t L := h.kept (Fr.drewN _ w n)
theorem TwoC.turnA (h : TwoC w0 w p S s q R t L) (ht : Turned w w' p S s') : ∃ S', TwoC w0 w' p S' s' q R t L := by
  obtain ⟨S', h1, h2, h3⟩ := ht
  refine ⟨S', ⟨h1, h.two.r.keep h2 (fun k hr hs => h.two.ap k hs hr), fun k hs hr => ?_, h.two.fr.trans h2 (fun _ h => h) (fun i hi hs => by have := h.two.newA i hs; omega), fun k hs => ?_, h.two.newR⟩, fun e he => ⟨h2.heap (h.c e he).1 (h.c e he).2.1, fun hs => ?_, (h.c e he).2.2⟩⟩
  · rcases h3 k hs with h4 | h4
    · exact h.two.ap k h4 hr
    · have := h.two.r.lt hr; omega
  · rcases h3 k hs with h4 | h4
    · exact h.two.newA k h4
    · have := h.two.fr.size; omega
  · have hlt := (Array.getElem?_eq_some_iff.1 (h.c e he).1).1
    rcases h3 _ hs with h4 | h4
    · exact (h.c e he).2.1 h4
    · omega
theorem TwoC.turnR (h : TwoC w0 w p S s q R t L) (ht : TurnedR w w' q R t') : ∃ R', TwoC w0 w' p S s q R' t' L := by
  obtain ⟨R', h1, h2, h3⟩ := ht
  refine ⟨R', ⟨h.two.a.keep h2 (fun k hs hr => h.two.ap k hs hr), h1, fun k hs hr => ?_, h.two.fr.trans h2 (fun _ h => h) (fun i hi hs => by have := h.two.newR i hs; omega), h.two.newA, fun k hr => ?_⟩, fun e he => ⟨h2.heap (h.c e he).1 (h.c e he).2.2, (h.c e he).2.1, fun hs => ?_⟩⟩
  · rcases h3 k hr with h4 | h4
    · exact h.two.ap k hs h4
    · have := h.two.a.lt hs; omega
  · rcases h3 k hr with h4 | h4
    · exact h.two.newR k h4
    · have := h.two.fr.size; omega
  · have hlt := (Array.getElem?_eq_some_iff.1 (h.c e he).1).1
    rcases h3 _ hs with h4 | h4
    · exact (h.c e he).2.2 h4
    · omega
end
theorem TurnedR.same {w w' : World} {q : Nat} {R : Nat → Prop} {t' : AS} (h : IsRef w' q R t') (hf : Fr R w w') : TurnedR w w' q R t' := ⟨R, h, hf, fun _ h => .inl h⟩
/-- A call, as a value. -/
def callV (c : CallD) : Value := .agg #[.int .i64 c.kind, .int .i64 c.n, .int .i64 c.m, .int .i64 c.at_, .int .i64 c.v]
set_option maxRecDepth 100000 in
set_option maxHeartbeats 1000000 in
theorem done_any (p q : Nat) (c : CallD) (w0 w : World) (S R : Nat → Prop) (s : AS) (L : List (Nat × CallD)) (h : TwoC w0 w p S s q R s L) (hc : c.fit) :
    Calls Try.prog 37 #[.pointer (some ⟨p, 0, none⟩), .pointer (some ⟨q, 0, none⟩), callV c] w fun e w' => e = .returned (.bool true) ∧ ∃ S' R' s', TwoC w0 w' p S' s' q R' s' L := by
  obtain ⟨k, n, m, a, v⟩ := c
  have HT := Lib.hid hc; clear hc
  have HC := Lib.hid (h.withC ⟨k, n, m, a, v⟩); clear h
  simp only [callV]
  rcases Classical.em (k = 1) with rfl | k1
  · go_enter Try.func37, Try.ntmps37
    go_wp2_with fail
    obtain ⟨wc, hwc⟩ : ∃ wc, wc = w.alloc (.cells #[.int .i64 1, .int .i64 n, .int .i64 m, .int .i64 a, .int .i64 v] 49) := ⟨_, rfl⟩
    rw [← hwc] at HC ⊢
    obtain ⟨cb, hcb⟩ : ∃ cb, cb = w.heap.size := ⟨_, rfl⟩
    rw [← hcb] at HC ⊢
    clear hwc hcb
    refine (Make_any p n m S s _ HC.out.two.a HT.out.2.1).mono ?_
    rintro e w1 ⟨rfl, q1⟩
    obtain ⟨S1, h1⟩ := HC.out.turnA q1
    have H1 := Lib.hid h1
    obtain ⟨_, d1, d2, _⟩ := h1.cells
    clear q1 h1
    go_wp2_with fail
    refine (refMake_any q n m R s _ H1.out.two.r HC.out.two.a.good).mono ?_
    rintro e w2 ⟨rfl, q1⟩
    obtain ⟨R1, h2⟩ := H1.out.turnR q1
    have H2 := Lib.hid h2
    clear q1 h2
    obtain ⟨z1, hz1⟩ : ∃ z, z = s.makeA m := ⟨_, rfl⟩
    obtain ⟨z2, hz2⟩ : ∃ z, z = s.makeE m := ⟨_, rfl⟩
    rw [← hz1, ← hz2]
    clear hz1 hz2
    go_wp2
    go_ret
    exact ⟨rfl, S1, R1, _, H2.out.tail⟩
  have b1 : (k == 1) = false := by simpa using k1
  rcases Classical.em (k = 2) with rfl | k2
  · go_enter Try.func37, Try.ntmps37
    go_wp2_with fail
    obtain ⟨wc, hwc⟩ : ∃ wc, wc = w.alloc (.cells #[.int .i64 2, .int .i64 n, .int .i64 m, .int .i64 a, .int .i64 v] 49) := ⟨_, rfl⟩
    rw [← hwc] at HC ⊢
    obtain ⟨cb, hcb⟩ : ∃ cb, cb = w.heap.size := ⟨_, rfl⟩
    rw [← hcb] at HC ⊢
    clear hwc hcb
    have HD := Lib.hid (HC.out.drewN 1)
    go_region_held3 (fun w' => w'.cell? ⟨cb, 3, none⟩ = some (.int .i64 a) ∧ w'.cell? ⟨cb, 1, none⟩ = some (.int .i64 n) ∧ w'.cell? ⟨cb, 4, none⟩ = some (.int .i64 v))
      (first
        | exact ⟨HD.out.cells.2.2.2.1, HD.out.cells.2.1, HD.out.cells.2.2.2.2⟩
        | exact ⟨H1.out.cells.2.2.2.1, H1.out.cells.2.1, H1.out.cells.2.2.2.2⟩
        | exact ⟨H2.out.cells.2.2.2.1, H2.out.cells.2.1, H2.out.cells.2.2.2.2⟩)
      (first
        | (go_at_call 28; refine (Put_any p a n v S s _ HD.out.two.a HT.out.2.2.2.2).mono ?_; rintro e w1 ⟨rfl, q1, q2⟩; obtain ⟨S1, h1⟩ := HD.out.turnA (Turned.same q1 q2); have H1 := Lib.hid h1; clear q1 q2 h1)
        | (go_at_call 71; refine (refPut_any q a n v R s _ H1.out.two.r HC.out.two.a.good).mono ?_; rintro e w2 ⟨rfl, q1, q2⟩; obtain ⟨R2, h2⟩ := H1.out.turnR (TurnedR.same q1 q2); have H2 := Lib.hid h2; clear q1 q2 h2))
    go_wp2
    go_ret
    exact ⟨rfl, _, _, _, H2.out.tail⟩
  have b2 : (k == 2) = false := by simpa using k2
  rcases Classical.em (k = 3) with rfl | k3
  · go_enter Try.func37, Try.ntmps37
    go_wp2_with fail
    obtain ⟨wc, hwc⟩ : ∃ wc, wc = w.alloc (.cells #[.int .i64 3, .int .i64 n, .int .i64 m, .int .i64 a, .int .i64 v] 49) := ⟨_, rfl⟩
    rw [← hwc] at HC ⊢
    obtain ⟨cb, hcb⟩ : ∃ cb, cb = w.heap.size := ⟨_, rfl⟩
    rw [← hcb] at HC ⊢
    clear hwc hcb
    refine (Flip_any p S s _ HC.out.two.a).mono ?_
    rintro e w1 ⟨rfl, q1⟩
    obtain ⟨S1, h1⟩ := HC.out.turnA q1
    have H1 := Lib.hid h1
    obtain ⟨_, d1, d2, d3, _⟩ := h1.cells
    clear q1 h1
    go_wp2_with fail
    refine (refFlip_any q R s _ H1.out.two.r HC.out.two.a.good).mono ?_
    rintro e w2 ⟨rfl, q1⟩
    obtain ⟨R1, h2⟩ := H1.out.turnR q1
    have H2 := Lib.hid h2
    obtain ⟨_, d1, d2, d3, _⟩ := h2.cells
    clear q1 h2
    have hg2 : (AS.mk [] s.used (fun _ => none) s.semi).Good := H2.out.two.a.good
    go_wp2_with fail
    refine (Get_any p a n S1 _ _ H2.out.two.a).mono ?_
    rintro e w3 ⟨rfl, nd, rfl⟩
    have H3 := Lib.hid (H2.out.drewN nd)
    go_wp2_with fail
    refine (refGet_any q a n R1 _ _ H3.out.two.r hg2).mono ?_
    rintro e w4 ⟨rfl, ne, rfl⟩
    have H4 := Lib.hid (H3.out.drewN ne)
    obtain ⟨z1, hz1⟩ : ∃ z, z = getV (findOb 0 ([] : List Ob) a) n := ⟨_, rfl⟩
    obtain ⟨z2, hz2⟩ : ∃ z, z = slotE (findOb 0 ([] : List Ob) a) n := ⟨_, rfl⟩
    rw [← hz1, ← hz2]
    clear hz1 hz2
    go_wp2
    go_ret
    exact ⟨rfl, S1, R1, _, (H2.out.drewN (nd + ne)).tail⟩
  have b3 : (k == 3) = false := by simpa using k3
  rcases Classical.em (k = 4) with rfl | k4
  · go_enter Try.func37, Try.ntmps37
    go_wp2_with fail
    obtain ⟨wc, hwc⟩ : ∃ wc, wc = w.alloc (.cells #[.int .i64 4, .int .i64 n, .int .i64 m, .int .i64 a, .int .i64 v] 49) := ⟨_, rfl⟩
    rw [← hwc] at HC ⊢
    obtain ⟨cb, hcb⟩ : ∃ cb, cb = w.heap.size := ⟨_, rfl⟩
    rw [← hcb] at HC ⊢
    clear hwc hcb
    refine (Copy_any p a S s _ HC.out.two.a).mono ?_
    rintro e w1 ⟨rfl, q1⟩
    obtain ⟨S1, h1⟩ := HC.out.turnA q1
    have H1 := Lib.hid h1
    obtain ⟨_, d1, d2, d3, _⟩ := h1.cells
    clear q1 h1
    go_wp2_with fail
    refine (refCopy_any q a R s _ H1.out.two.r HC.out.two.a.good).mono ?_
    rintro e w2 ⟨rfl, q1⟩
    obtain ⟨R1, h2⟩ := H1.out.turnR q1
    have H2 := Lib.hid h2
    clear q1 h2
    obtain ⟨z1, hz1⟩ : ∃ z, z = s.copyA a := ⟨_, rfl⟩
    obtain ⟨z2, hz2⟩ : ∃ z, z = s.copyE a := ⟨_, rfl⟩
    rw [← hz1, ← hz2]
    clear hz1 hz2
    go_wp2
    go_ret
    exact ⟨rfl, S1, R1, _, H2.out.tail⟩
  have b4 : (k == 4) = false := by simpa using k4
  go_enter Try.func37, Try.ntmps37
  go_wp2_with fail
  obtain ⟨wc, hwc⟩ : ∃ wc, wc = w.alloc (.cells #[.int .i64 k, .int .i64 n, .int .i64 m, .int .i64 a, .int .i64 v] 49) := ⟨_, rfl⟩
  rw [← hwc] at HC ⊢
  obtain ⟨cb, hcb⟩ : ∃ cb, cb = w.heap.size := ⟨_, rfl⟩
  rw [← hcb] at HC ⊢
  clear hwc hcb
  refine (Get_any p a n S s _ HC.out.two.a).mono ?_
  rintro e w1 ⟨rfl, nd, rfl⟩
  have H1 := Lib.hid (HC.out.drewN nd)
  obtain ⟨_, d1, d2, d3, _⟩ := H1.out.cells
  go_wp2_with fail
  refine (refGet_any q a n R s _ H1.out.two.r HC.out.two.a.good).mono ?_
  rintro e w2 ⟨rfl, ne, rfl⟩
  have H2 := Lib.hid (H1.out.drewN ne)
  obtain ⟨z1, hz1⟩ : ∃ z, z = getV (findOb 0 s.used a) n := ⟨_, rfl⟩
  obtain ⟨z2, hz2⟩ : ∃ z, z = slotE (findOb 0 s.used a) n := ⟨_, rfl⟩
  rw [← hz1, ← hz2]
  clear hz1 hz2
  go_wp2
  go_ret
  exact ⟨rfl, S, R, _, (HC.out.drewN (nd + ne)).tail⟩
set_option maxRecDepth 100000 in
set_option maxHeartbeats 1000000 in
theorem asked_any (p q : Nat) (a : Int) (w0 w : World) (S R : Nat → Prop) (s : AS) (h : Two w0 w p S s q R s) :
    Calls Try.prog 39 #[.pointer (some ⟨p, 0, none⟩), .pointer (some ⟨q, 0, none⟩), .int .i64 a] w fun e w' => e = .returned (.bool true) ∧ w' = w := by
  have H := Lib.hid h
  have HG := Lib.hid h.a.good
  clear h
  go_enter Try.func39, Try.ntmps39
  go_wp2_with fail
  refine (Kind_any p a S s _ H.out.a).mono ?_
  rintro e w1 ⟨rfl, rfl⟩
  obtain ⟨z1, hz1⟩ : ∃ z, z = kindOf (findOb 0 s.used a) := ⟨_, rfl⟩
  obtain ⟨z2, hz2⟩ : ∃ z, z = errI (findOb 0 s.used a) := ⟨_, rfl⟩
  obtain ⟨z3, hz3⟩ : ∃ z, z = slotsOf (findOb 0 s.used a) := ⟨_, rfl⟩
  have HZ := Lib.hid (And.intro hz1 (And.intro hz2 hz3))
  rw [← hz1, ← hz2]
  clear hz1 hz2 hz3
  go_wp2_with fail
  refine (Slots_any p a S s _ H.out.a).mono ?_
  rintro e w2 ⟨rfl, rfl⟩
  rw [← HZ.out.2.2, ← HZ.out.2.1]
  obtain ⟨vl, va, hl, ha, tl, h1, h2⟩ := H.out.r
  have HR := Lib.hid h1
  clear h1 h2
  go_wp2_with fail
  refine (refAt_any q a vl va hl ha tl s _ HR.out HG.out).mono ?_
  rintro e w3 ⟨u, rfl, hf, rfl⟩
  rcases hf with ⟨j, o, x, hj, hx, hadr, hfd, rfl⟩ | ⟨hfd, rfl⟩
  · obtain ⟨e1, e2, e3⟩ := HZ.out
    rw [hfd] at e1 e2 e3
    have hob := HR.out.used.obs j o x hj hx
    have hd1 := blk_cell hob.cells 1
    have hd2 := blk_cell hob.cells 2
    simp only [List.getElem?_toArray, List.getElem?_cons_succ, List.getElem?_cons_zero] at hd1 hd2
    rw [show x.kind = z1 from e1.symm] at hd1
    have hrr := hob.row
    obtain ⟨ob, ov⟩ := o
    simp only [optr] at hd1 hd2 hrr ⊢
    obtain ⟨av, cv, rfl⟩ := row_form hrr
    obtain ⟨xn, hxn⟩ : ∃ xn, xn = x.vs.length := ⟨_, rfl⟩
    rw [← hxn] at hd2
    have f3 : z3 = (xn : Int) := by rw [hxn]; exact e3
    have f2 : z2 = 0 := e2
    clear hob hrr hj hx hadr hfd e1 e2 e3 hxn HZ
    subst f3 f2
    go_wp2_with fail
    go_wp2
    go_ret
    exact ⟨rfl, rfl⟩
  · obtain ⟨e1, e2, e3⟩ := HZ.out
    rw [hfd] at e1 e2 e3
    have f1 : z1 = 0 := e1
    have f2 : z2 = 57 := e2
    have f3 : z3 = 0 := e3
    clear HZ hfd e1 e2 e3
    subst f1 f2 f3
    go_wp2
    go_ret
    exact ⟨rfl, rfl⟩
end Go.Proofs.Ytniifefmjdjebaa
