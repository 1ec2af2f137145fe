/- Arguments of the laws, opened to cells: numbers, slices of numbers, slices of calls. -/
import Derived.Test.YtniifefmjdjebaaKB
import Derived.ProofKit
import Derived.OpenShut
import Derived.ShutString
import Derived.ChangeOld
import Derived.Below
import Derived.Deep.Slices
namespace Go.Proofs.Ytniifefmjdjebaa
open Go.ChangeShapes Go.WideShapes Go.ChangeAt Go.RowKit
set_option linter.unusedVariables false
set_option linter.unusedSimpArgs false

theorem own : ownKnob Try.prog.godebug = none := by kernel_rfl
theorem laidOut : laidOutB Try.prog = true := by kernel_rfl
theorem i64_of {n : Int} (h : (Lit.int .i64 n).wf = true) : I64 n := by
  simp only [Lit.wf, IntKind.min, IntKind.max, IntKind.signed, IntKind.bits, Bool.and_eq_true, decide_eq_true_eq, if_true] at h
  unfold I64; omega
theorem addr_add (b off i : Nat) : (⟨b, off, none⟩ : Addr).add i = ⟨b, off + i, none⟩ := by unfold Addr.add; split <;> simp_all
section
variable {H : Type} {enc : TypeId × Value → H} {W : World}
theorem ints_open {t e : TypeId} {a1 : Option Addr} {len1 cap1 : Nat} {d : DataW H} {p : List MemPlace} (ht : Try.prog.underlying t = some (.slice e)) (he : Try.prog.underlying e = some (.int .i64)) (hc : Try.prog.cellsOf e = 1)
    (h : DataW.Trod enc Try.prog W 0 (fun _ => true) true t (.slice a1 len1 cap1) d p) : ∃ z, IntsIn W a1 len1 z := by
  obtain ⟨fuel, hf⟩ := h
  rcases open_ints ht he hc hf with ⟨hcs, _⟩ | ⟨x, l, c, zs, hcs, _, hl, hm, hz, _, hcell, hwz⟩
  · simp [Value.cells] at hcs
    obtain ⟨rfl, rfl, rfl⟩ := hcs
    exact ⟨fun _ => 0, by omega, fun h => by omega, fun i hi => by omega⟩
  · simp [Value.cells] at hcs
    obtain ⟨rfl, rfl, rfl⟩ := hcs
    have hz' : zs.length = cap1 := by simpa using hz
    refine ⟨fun i => zs.getD i 0, by simp only [maxLen] at hm; omega, fun h0 => ?_, fun i hi => ?_⟩
    · obtain ⟨b, off, spot⟩ := x
      have hc := hcell 0 (by omega)
      have hspot : spot = none := by simpa [Addr.add] using World.cell?_spot hc
      subst hspot
      refine ⟨b, off, rfl, fun i hi => ?_⟩
      have := hcell i (by omega)
      rw [addr_add] at this
      exact this
    · have h1 : i < zs.length := by omega
      show I64 (zs.getD i 0)
      rw [List.getD_eq_getElem?_getD, List.getElem?_eq_getElem h1]
      exact i64_of (hwz _ (List.getElem_mem h1))
theorem cells49 : Try.prog.cellsOf 49 = 5 := by kernel_rfl
theorem cells3 : Try.prog.cellsOf 3 = 1 := by kernel_rfl
theorem cells2 : Try.prog.cellsOf 2 = 1 := by kernel_rfl
/-- A cell of a struct's cells that reads as a number. -/
theorem field_int {n : Nat} {T : TypeId} {cs : List Value} {j : Nat} {y : Option (DataW H × List MemPlace)} (hT : Try.prog.underlying T = some (.int .i64)) (hc : Try.prog.cellsOf T = 1) (hj : j < cs.length)
    (h : DataW.trod enc Try.prog W 0 (fun _ => true) true n T ((cs.drop j).take (Try.prog.cellsOf T)) = y) (hy : y.isSome) : ∃ q, cs[j]? = some (.int .i64 q) ∧ I64 q := by
  obtain ⟨y, rfl⟩ := Option.isSome_iff_exists.1 hy
  obtain ⟨q, h1, _, h3⟩ := DataW.trod_int hT h
  rw [hc, List.drop_eq_getElem_cons hj] at h1
  simp only [List.take_succ_cons, List.take_zero, List.cons.injEq, and_true] at h1
  exact ⟨q, by rw [List.getElem?_eq_getElem hj, h1], i64_of h3⟩
theorem calls_open {a1 : Option Addr} {len1 cap1 : Nat} {d : DataW H} {p : List MemPlace}
    (h : DataW.Trod enc Try.prog W 0 (fun _ => true) true 36 (.slice a1 len1 cap1) d p) : ∃ c, CallsIn W a1 len1 c := by
  obtain ⟨fuel, hf⟩ := h
  rcases Deep.open_slice Try.underlying36 hf with ⟨hcs, _⟩ | ⟨x, l, c, m, n, D, Pl, hcs, _, hl, hm, hmm, _, hel⟩
  · simp [Value.cells] at hcs
    obtain ⟨rfl, rfl, rfl⟩ := hcs
    exact ⟨fun _ => ⟨0, 0, 0, 0, 0⟩, by omega, fun h => by omega, fun i hi => by omega⟩
  · simp [Value.cells] at hcs
    obtain ⟨rfl, rfl, rfl⟩ := hcs
    simp only [if_true] at hmm
    subst hmm
    have key : ∀ i, i < len1 → ∃ c : CallD, c.fit ∧ W.cell? (x.add (i * 5)) = some (.int .i64 c.kind) ∧ W.cell? ((x.add (i * 5)).add 1) = some (.int .i64 c.n) ∧ W.cell? ((x.add (i * 5)).add 2) = some (.int .i64 c.m) ∧
        W.cell? ((x.add (i * 5)).add 3) = some (.int .i64 c.at_) ∧ W.cell? ((x.add (i * 5)).add 4) = some (.int .i64 c.v) := by
      intro i hi
      obtain ⟨cs', h1, h2⟩ := hel i (by omega)
      rw [cells49] at h1
      obtain ⟨_, hlen, hat⟩ := World.cells?_some h1
      obtain ⟨xs, n', _, _, _, hxl, hfs⟩ := DataW.trod_struct Try.underlying49 h2
      have hx5 : xs.length = 5 := hxl
      have g0 := hfs 0 _ rfl
      have g1 := hfs 1 _ rfl
      have g2 := hfs 2 _ rfl
      have g3 := hfs 3 _ rfl
      have g4 := hfs 4 _ rfl
      obtain ⟨q0, e0, f0⟩ := field_int (j := 0) Try.underlying3 cells3 (by omega) g0 (by simp; omega)
      obtain ⟨q1, e1, f1⟩ := field_int (j := 1) Try.underlying3 cells3 (by omega) g1 (by simp; omega)
      obtain ⟨q2, e2, f2⟩ := field_int (j := 2) Try.underlying3 cells3 (by omega) g2 (by simp; omega)
      obtain ⟨q3, e3, f3⟩ := field_int (j := 3) Try.underlying2 cells2 (by omega) g3 (by simp; omega)
      obtain ⟨q4, e4, f4⟩ := field_int (j := 4) Try.underlying2 cells2 (by omega) g4 (by simp; omega)
      refine ⟨⟨q0, q1, q2, q3, q4⟩, ⟨f0, f1, f2, f3, f4⟩, ?_, ?_, ?_, ?_, ?_⟩
      · have := hat 0 (by omega); rw [e0] at this; simpa [Addr.add] using this
      · rw [hat 1 (by omega), e1]
      · rw [hat 2 (by omega), e2]
      · rw [hat 3 (by omega), e3]
      · rw [hat 4 (by omega), e4]
    haveI : Inhabited CallD := ⟨⟨0, 0, 0, 0, 0⟩⟩
    obtain ⟨cf, hcf⟩ := Deep.choose_lt key
    refine ⟨cf, by simp only [maxLen] at hm; omega, fun h0 => ?_, fun i hi => (hcf i hi).1⟩
    obtain ⟨b, off, spot⟩ := x
    have hc := (hcf 0 h0).2.1
    have hspot : spot = none := by simpa [Addr.add] using World.cell?_spot hc
    subst hspot
    refine ⟨b, off, rfl, fun i hi => ?_⟩
    obtain ⟨_, h0, h1, h2, h3, h4⟩ := hcf i hi
    simp only [addr_add] at h0 h1 h2 h3 h4
    exact ⟨h0, h1, h2, h3, h4⟩
end
end Go.Proofs.Ytniifefmjdjebaa
