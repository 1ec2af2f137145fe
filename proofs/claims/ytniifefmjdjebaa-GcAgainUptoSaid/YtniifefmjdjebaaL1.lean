/- Arguments of the laws of chapter 16, opened to cells: tables, objects. -/
import Derived.Test.YtniifefmjdjebaaL0
import Derived.Test.YtniifefmjdjebaaKI
import Derived.Test.YtniifefmjdjebaaKJ
import Derived.Deep.Matrix
import Derived.JoinedCond
namespace Go.Proofs.Ytniifefmjdjebaa
open Go.ChangeShapes Go.WideShapes Go.ChangeAt Go.RowKit
set_option linter.unusedVariables false
set_option linter.unusedSimpArgs false
section
variable {H : Type} {enc : TypeId × Value → H} {W : World}
theorem und59' : Try.prog.underlying 59 = some (.slice 22) := by kernel_rfl
theorem und70 : Try.prog.underlying 70 = some (.slice 122) := by kernel_rfl
theorem cells22 : Try.prog.cellsOf 22 = 1 := by kernel_rfl
theorem cells38 : Try.prog.cellsOf 38 = 1 := by kernel_rfl
theorem cells122 : Try.prog.cellsOf 122 = 3 := by kernel_rfl
theorem und22' : Try.prog.underlying 22 = some (.slice 3) := by kernel_rfl
theorem und38' : Try.prog.underlying 38 = some (.slice 2) := by kernel_rfl
/-- Numbers behind a slice, whatever cells it stands in. -/
theorem ints_at {t e : TypeId} {fuel : Nat} {cs : List Value} {x : DataW H × List MemPlace} (ht : Try.prog.underlying t = some (.slice e)) (he : Try.prog.underlying e = some (.int .i64)) (hc : Try.prog.cellsOf e = 1)
    (h : DataW.trod enc Try.prog W 0 (fun _ => true) true fuel t cs = some x) : ∃ a l c z, cs = [.slice a l c] ∧ l ≤ c ∧ c ≤ 9223372036854775807 ∧ (a = none → c = 0) ∧ IntsIn W a l z := by
  rcases open_ints ht he hc h with ⟨hcs, _⟩ | ⟨x, l, c, zs, hcs, _, hl, hm, hz, _, hcell, hwz⟩
  · exact ⟨none, 0, 0, fun _ => 0, hcs, by omega, by omega, fun _ => rfl, by omega, fun h => by omega, fun i hi => by omega⟩
  · have hz' : zs.length = c := by simpa using hz
    refine ⟨some x, l, c, fun i => zs.getD i 0, hcs, hl, by simp only [maxLen] at hm; omega, (by simp), by simp only [maxLen] at hm; omega, fun h0 => ?_, fun i hi => ?_⟩
    · obtain ⟨b, off, spot⟩ := x
      have hc := hcell 0 (by omega)
      have hspot : spot = none := by simpa [Addr.add] using World.cell?_spot hc
      subst hspot
      refine ⟨b, off, rfl, fun i hi => ?_⟩
      have := hcell i (by omega)
      rw [addr_add] at this
      exact this
    · have h1 : i < zs.length := by omega
      show I64 (zs.getD i 0)
      rw [List.getD_eq_getElem?_getD, List.getElem?_eq_getElem h1]
      exact i64_of (hwz _ (List.getElem_mem h1))
theorem tab_open {a1 : Option Addr} {len1 cap1 : Nat} {d : DataW H} {p : List MemPlace}
    (h : DataW.Trod enc Try.prog W 0 (fun _ => true) true 59 (.slice a1 len1 cap1) d p) : ∃ A L C z, TabIn W a1 len1 A L C z := by
  obtain ⟨fuel, hf⟩ := h
  rcases Deep.open_slice und59' hf with ⟨hcs, _⟩ | ⟨x, l, c, m, n, D, Pl, hcs, _, hl, hm, hmm, _, hel⟩
  · simp [Value.cells] at hcs
    obtain ⟨rfl, rfl, rfl⟩ := hcs
    exact ⟨fun _ => none, fun _ => 0, fun _ => 0, fun _ _ => 0, by omega, fun h => by omega, fun i hi => by omega⟩
  · simp [Value.cells] at hcs
    obtain ⟨rfl, rfl, rfl⟩ := hcs
    simp only [if_true] at hmm
    subst hmm
    have key : ∀ i, i < len1 → ∃ r : Option Addr × Nat × Nat × (Nat → Int), W.cell? (x.add i) = some (.slice r.1 r.2.1 r.2.2.1) ∧ r.2.1 ≤ r.2.2.1 ∧ r.2.2.1 ≤ 9223372036854775807 ∧ IntsIn W r.1 r.2.1 r.2.2.2 ∧ (r.1 = none → r.2.2.1 = 0) := by
      intro i hi
      obtain ⟨cs', h1, h2⟩ := hel i (by omega)
      rw [cells22, Nat.mul_one] at h1
      obtain ⟨_, hlen, hat⟩ := World.cells?_some h1
      obtain ⟨a, l, c, z, rfl, e1, e2, e3, e4⟩ := ints_at und22' Try.underlying3 cells3 h2
      refine ⟨(a, l, c, z), ?_, e1, e2, e4, e3⟩
      have := hat 0 (by simp)
      simpa [Addr.add] using this
    haveI : Inhabited (Option Addr × Nat × Nat × (Nat → Int)) := ⟨(none, 0, 0, fun _ => 0)⟩
    obtain ⟨cf, hcf⟩ := Deep.choose_lt key
    refine ⟨fun i => (cf i).1, fun i => (cf i).2.1, fun i => (cf i).2.2.1, fun i => (cf i).2.2.2, by simp only [maxLen] at hm; omega, fun h0 => ?_, fun i hi => (hcf i hi).2⟩
    obtain ⟨b, off, spot⟩ := x
    have hc := (hcf 0 h0).1
    have hspot : spot = none := by simpa [Addr.add] using World.cell?_spot hc
    subst hspot
    refine ⟨b, off, rfl, fun i hi => ?_⟩
    have := (hcf i hi).1
    rw [addr_add] at this
    exact this
theorem field_ints {n : Nat} {T e : TypeId} {cs : List Value} {j : Nat} {y : Option (DataW H × List MemPlace)} (hT : Try.prog.underlying T = some (.slice e)) (he : Try.prog.underlying e = some (.int .i64)) (hce : Try.prog.cellsOf e = 1) (hc : Try.prog.cellsOf T = 1) (hj : j < cs.length)
    (h : DataW.trod enc Try.prog W 0 (fun _ => true) true n T ((cs.drop j).take (Try.prog.cellsOf T)) = y) (hy : y.isSome) : ∃ a l c z, cs[j]? = some (.slice a l c) ∧ l ≤ c ∧ IntsIn W a l z := by
  obtain ⟨y, rfl⟩ := Option.isSome_iff_exists.1 hy
  obtain ⟨a, l, c, z, h1, h2, h3, h4, h5⟩ := ints_at hT he hce h
  rw [hc, List.drop_eq_getElem_cons hj] at h1
  simp only [List.take_succ_cons, List.take_zero, List.cons.injEq, and_true] at h1
  exact ⟨a, l, c, z, by rw [List.getElem?_eq_getElem hj, h1], h2, h5⟩
theorem objs_open {a1 : Option Addr} {len1 cap1 : Nat} {d : DataW H} {p : List MemPlace}
    (h : DataW.Trod enc Try.prog W 0 (fun _ => true) true 70 (.slice a1 len1 cap1) d p) : ∃ o, ObjsIn W a1 len1 o := by
  obtain ⟨fuel, hf⟩ := h
  rcases Deep.open_slice und70 hf with ⟨hcs, _⟩ | ⟨x, l, c, m, n, D, Pl, hcs, _, hl, hm, hmm, _, hel⟩
  · simp [Value.cells] at hcs
    obtain ⟨rfl, rfl, rfl⟩ := hcs
    exact ⟨fun _ => ⟨0, none, 0, 0, fun _ => 0, none, 0, 0, fun _ => 0⟩, by omega, fun h => by omega, fun i hi => by omega⟩
  · simp [Value.cells] at hcs
    obtain ⟨rfl, rfl, rfl⟩ := hcs
    simp only [if_true] at hmm
    subst hmm
    have key : ∀ i, i < len1 → ∃ o : ObjD, (I64 o.kd ∧ IntsIn W o.va o.vl o.zv ∧ IntsIn W o.ra o.rl o.zr) ∧ W.cell? (x.add (i * 3)) = some (.int .i64 o.kd) ∧ W.cell? ((x.add (i * 3)).add 1) = some (.slice o.va o.vl o.vc) ∧ W.cell? ((x.add (i * 3)).add 2) = some (.slice o.ra o.rl o.rc) := by
      intro i hi
      obtain ⟨cs', h1, h2⟩ := hel i (by omega)
      rw [cells122] at h1
      obtain ⟨_, hlen, hat⟩ := World.cells?_some h1
      obtain ⟨xs, n', _, _, _, hxl, hfs⟩ := DataW.trod_struct Try.underlying122 h2
      have hx3 : xs.length = 3 := hxl
      have g0 := hfs 0 _ rfl
      have g1 := hfs 1 _ rfl
      have g2 := hfs 2 _ rfl
      obtain ⟨q0, e0, f0⟩ := field_int (j := 0) Try.underlying3 cells3 (by omega) g0 (by simp; omega)
      obtain ⟨a1', l1, c1, z1, e1, _, f1⟩ := field_ints (j := 1) und38' Try.underlying2 cells2 cells38 (by omega) g1 (by simp; omega)
      obtain ⟨a2', l2, c2, z2, e2, _, f2⟩ := field_ints (j := 2) und22' Try.underlying3 cells3 cells22 (by omega) g2 (by simp; omega)
      refine ⟨⟨q0, a1', l1, c1, z1, a2', l2, c2, z2⟩, ⟨f0, f1, f2⟩, ?_, ?_, ?_⟩
      · have := hat 0 (by omega); rw [e0] at this; simpa [Addr.add] using this
      · rw [hat 1 (by omega), e1]
      · rw [hat 2 (by omega), e2]
    haveI : Inhabited ObjD := ⟨⟨0, none, 0, 0, fun _ => 0, none, 0, 0, fun _ => 0⟩⟩
    obtain ⟨cf, hcf⟩ := Deep.choose_lt key
    refine ⟨cf, by simp only [maxLen] at hm; omega, fun h0 => ?_, fun i hi => (hcf i hi).1⟩
    obtain ⟨b, off, spot⟩ := x
    have hc := (hcf 0 h0).2.1
    have hspot : spot = none := by simpa [Addr.add] using World.cell?_spot hc
    subst hspot
    refine ⟨b, off, rfl, fun i hi => ?_⟩
    obtain ⟨_, h0, h1, h2⟩ := hcf i hi
    simp only [addr_add] at h0 h1 h2
    exact ⟨h0, h1, h2⟩
end
end Go.Proofs.Ytniifefmjdjebaa
