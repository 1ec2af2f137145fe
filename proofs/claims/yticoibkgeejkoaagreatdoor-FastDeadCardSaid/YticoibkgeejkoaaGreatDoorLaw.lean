/- 'FastDead' (statement Rows.FastDeadCardSaid): WHATEVER THE BOOL AND THE NUMBER, the call returns true and the arguments read as they did. Conditions: those of the given row. -/
import Derived.Test.YticoibkgeejkoaaGreatDoorRows
import Derived.Test.YticoibkgeejkoaaGreatDoorTie
import Derived.Test.YticoibkgeejkoaaGreatDoorCards
import Derived.WalkKit
import Derived.Test.YticoibkgeejkoaaGreatDoorC0
import Derived.Test.YticoibkgeejkoaaGreatDoorC1
import Derived.Test.YticoibkgeejkoaaGreatDoorC2
import Derived.Test.YticoibkgeejkoaaGreatDoorC3
import Derived.Test.YticoibkgeejkoaaGreatDoorC4
import Derived.Test.YticoibkgeejkoaaGreatDoorC5
import Derived.Test.YticoibkgeejkoaaGreatDoorC6
import Derived.Test.YticoibkgeejkoaaGreatDoorC7
import Derived.Test.YticoibkgeejkoaaGreatDoorC8
import Derived.Test.YticoibkgeejkoaaGreatDoorC9
import Derived.Test.YticoibkgeejkoaaGreatDoorC10
import Derived.Test.YticoibkgeejkoaaGreatDoorC11
import Derived.Test.YticoibkgeejkoaaGreatDoorC12
import Derived.Test.YticoibkgeejkoaaGreatDoorC13
import Derived.Test.YticoibkgeejkoaaGreatDoorC14
import Derived.Test.YticoibkgeejkoaaGreatDoorC15
import Derived.ProofKit
import Derived.OpenShut
import Derived.ChangeVars
import Derived.LaidLaws
import Derived.LaidHandle
import Derived.Lay
import Derived.SevenTiedAt
import Derived.Test.YticoibkgeejkoaaGreatDoorFa
import Derived.Test.YticoibkgeejkoaaGreatDoorFb
import Derived.Test.YticoibkgeejkoaaGreatDoorFc
import Derived.Test.YticoibkgeejkoaaGreatDoorFd
import Derived.Test.YticoibkgeejkoaaGreatDoorFe
set_option linter.unusedVariables false
set_option linter.unusedSimpArgs false
namespace Go.Proofs.YticoibkgeejkoaaGreatDoor.fastDead
open Go.ChangeShapes Go.WideShapes Go.ChangeAt Go.RowKit
set_option linter.unusedVariables false
theorem own : ownKnob Tryz.prog.godebug = none := by kernel_rfl
theorem fd_all (b : Bool) (v : Nat) (h : v < 40) : Ev.fdV b v = true := by
  have h : v = 0 ∨ v = 1 ∨ v = 2 ∨ v = 3 ∨ v = 4 ∨ v = 5 ∨ v = 6 ∨ v = 7 ∨ v = 8 ∨ v = 9 ∨ v = 10 ∨ v = 11 ∨ v = 12 ∨ v = 13 ∨ v = 14 ∨ v = 15 ∨ v = 16 ∨ v = 17 ∨ v = 18 ∨ v = 19 ∨ v = 20 ∨ v = 21 ∨ v = 22 ∨ v = 23 ∨ v = 24 ∨ v = 25 ∨ v = 26 ∨ v = 27 ∨ v = 28 ∨ v = 29 ∨ v = 30 ∨ v = 31 ∨ v = 32 ∨ v = 33 ∨ v = 34 ∨ v = 35 ∨ v = 36 ∨ v = 37 ∨ v = 38 ∨ v = 39 := by omega
  cases b <;> rcases h with rfl | rfl | rfl | rfl | rfl | rfl | rfl | rfl | rfl | rfl | rfl | rfl | rfl | rfl | rfl | rfl | rfl | rfl | rfl | rfl | rfl | rfl | rfl | rfl | rfl | rfl | rfl | rfl | rfl | rfl | rfl | rfl | rfl | rfl | rfl | rfl | rfl | rfl | rfl | rfl
  · exact Ev.fd_f_0
  · exact Ev.fd_f_1
  · exact Ev.fd_f_2
  · exact Ev.fd_f_3
  · exact Ev.fd_f_4
  · exact Ev.fd_f_5
  · exact Ev.fd_f_6
  · exact Ev.fd_f_7
  · exact Ev.fd_f_8
  · exact Ev.fd_f_9
  · exact Ev.fd_f_10
  · exact Ev.fd_f_11
  · exact Ev.fd_f_12
  · exact Ev.fd_f_13
  · exact Ev.fd_f_14
  · exact Ev.fd_f_15
  · exact Ev.fd_f_16
  · exact Ev.fd_f_17
  · exact Ev.fd_f_18
  · exact Ev.fd_f_19
  · exact Ev.fd_f_20
  · exact Ev.fd_f_21
  · exact Ev.fd_f_22
  · exact Ev.fd_f_23
  · exact Ev.fd_f_24
  · exact Ev.fd_f_25
  · exact Ev.fd_f_26
  · exact Ev.fd_f_27
  · exact Ev.fd_f_28
  · exact Ev.fd_f_29
  · exact Ev.fd_f_30
  · exact Ev.fd_f_31
  · exact Ev.fd_f_32
  · exact Ev.fd_f_33
  · exact Ev.fd_f_34
  · exact Ev.fd_f_35
  · exact Ev.fd_f_36
  · exact Ev.fd_f_37
  · exact Ev.fd_f_38
  · exact Ev.fd_f_39
  · exact Ev.fd_t_0
  · exact Ev.fd_t_1
  · exact Ev.fd_t_2
  · exact Ev.fd_t_3
  · exact Ev.fd_t_4
  · exact Ev.fd_t_5
  · exact Ev.fd_t_6
  · exact Ev.fd_t_7
  · exact Ev.fd_t_8
  · exact Ev.fd_t_9
  · exact Ev.fd_t_10
  · exact Ev.fd_t_11
  · exact Ev.fd_t_12
  · exact Ev.fd_t_13
  · exact Ev.fd_t_14
  · exact Ev.fd_t_15
  · exact Ev.fd_t_16
  · exact Ev.fd_t_17
  · exact Ev.fd_t_18
  · exact Ev.fd_t_19
  · exact Ev.fd_t_20
  · exact Ev.fd_t_21
  · exact Ev.fd_t_22
  · exact Ev.fd_t_23
  · exact Ev.fd_t_24
  · exact Ev.fd_t_25
  · exact Ev.fd_t_26
  · exact Ev.fd_t_27
  · exact Ev.fd_t_28
  · exact Ev.fd_t_29
  · exact Ev.fd_t_30
  · exact Ev.fd_t_31
  · exact Ev.fd_t_32
  · exact Ev.fd_t_33
  · exact Ev.fd_t_34
  · exact Ev.fd_t_35
  · exact Ev.fd_t_36
  · exact Ev.fd_t_37
  · exact Ev.fd_t_38
  · exact Ev.fd_t_39
theorem kept_of {w w' : World} (h1 : w'.os = w.os) (h2 : w'.output = w.output) (h : ∀ b, b < w.heap.size → w'.heap[b]? = w.heap[b]?) (may : MemPlace → Prop) : w.keptBut w' may := by
  refine ⟨h1, h2, fun i hi => ?_⟩
  rw [h i hi]
  cases w.heap[i]? with
  | none => rfl
  | some o => cases o <;> first | exact ⟨rfl, rfl, rfl, fun _ _ => rfl⟩ | exact .inr ⟨rfl, rfl⟩ | rfl
theorem in64 {a : Int} (h : (Lit.int .i64 a).wf = true) : In64 a := by
  have h : (decide (IntKind.min .i64 ≤ a) && decide (a ≤ IntKind.max .i64)) = true := h
  rw [Bool.and_eq_true] at h
  exact ⟨of_decide_eq_true h.1, of_decide_eq_true h.2⟩
theorem walk (b0 : Bool) (a1 : Int) (w1 : (Lit.int .i64 a1).wf = true) (w : World) :
    Calls Tryz.prog 3 #[.bool b0, .int .i64 a1] w fun e w' => e = .returned (.bool true) ∧ w.keptBut w' (fun _ => False) := by
  have q1 := Int.emod_nonneg a1 (show (40 : Int) ≠ 0 by omega)
  have q2 := Int.emod_lt_of_pos a1 (show (0 : Int) < 40 by omega)
  obtain ⟨v, hv⟩ : ∃ v : Nat, a1 % 40 = v := ⟨(a1 % 40).toNat, by omega⟩
  exact (Ev.fd_case (in64 w1) hv (fd_all b0 v (by omega)) w).mono fun e w' ⟨he, h1, _, h2, _, h3⟩ => ⟨he, kept_of h1 h2 h3 _⟩
noncomputable abbrev laid : List (String × DataW Unit) := Rows.fastDeadRow.laid
noncomputable abbrev laidD : List (String × DataW Unit) := laid.filter fun x => x.2.handleName?.isNone
noncomputable def laidW0 (os : Os) : World :=
  let w0 := World.holding Tryz.prog os ⟨#[], #[], []⟩
  { w0 with heap := w0.heap.modify 0 fun
      | .cells _ t frozen => .cells #[.iface 437 (.agg #[typeHandle Tryz.prog 167])] t frozen
      | o => o }
noncomputable def laidWorld (os : Os) : World := (laidW0 os).layVars Tryz.prog laidD
theorem laidWorld_os (os : Os) : (laidWorld os).os = os := (World.layVars_os _ _ _).trans (by kernel_rfl)
theorem laidWorld_met (os : Os) (args : Array Value) : laidMetH Tryz.prog laid ((laidWorld os).forCall (fun _ _ => 0) ⟨#[], args, []⟩).memory := by
  have e1 : (laidD.filter fun x => (laidD.map (·.1)).contains x.1) = laidD := List.filter_eq_self.2 fun x hx => List.contains_iff_mem.2 (List.mem_map.2 ⟨x, hx, rfl⟩)
  have e2 : (laidD.filter fun x => !(laidD.map (·.1)).contains x.1) = [] := List.filter_eq_nil_iff.2 fun x hx => by rw [List.contains_iff_mem.2 (List.mem_map.2 ⟨x, hx, rfl⟩)]; simp
  have h : laidMet Tryz.prog laidD (laidWorld os) := laidMet_layVars (w0 := laidW0 os) (laidD.map (·.1)) [] (by rw [e1]; rfl) (by rw [e1]; kernel_rfl) (by rw [e1]; kernel_rfl) (by rw [e2]; exact LaidIn.none)
  exact laidMetH_of_parts (h.of_heap (by simp [World.memory, World.forCall, Input.heap])) (by kernel_rfl)
set_option maxRecDepth 100000 in
theorem lifted (os : Os) (started : os.Started) (H : Type) (enc : TypeId × Value → H) :
    ReturnsInHanded {} Tryz.checked os 3 .any (fun w args => (Rows.fastDeadSpec.pre enc Tryz.prog Tryz.f3 [] false w args ∧ laidMetH Tryz.prog laid w) ∧ sizedMet enc Tryz.prog Tryz.f3 (OpenSpec.ofChange Rows.fastDeadSpec) false w args) (Rows.fastDeadSpec.post enc Tryz.prog Tryz.f3 false true false false) := by
  refine returnsInHanded_of_change_and (C := Tryz.checked) (X := fun w _ => laidMetH Tryz.prog laid w) (fun _ _ _ hh h => h.of_heap hh) own started (by kernel_rfl) Tryz.func3
    (ChangeSpec.witness_at (enc := enc) (C := Tryz.checked) (os := os) (X := fun w _ => laidMetH Tryz.prog laid w) false (laidWorld os) #[.bool false, .int .i64 0] 8 (laidWorld_os os) (by kernel_rfl) (by kernel_rfl) (by kernel_rfl) (by kernel_rfl) (by kernel_rfl) (laidWorld_met os _)) ?_
  intro W base args ds gs before hval0 hW _ _ hL _
  have hval : ∀ (j : Nat) t v, Tryz.f3.params[j]? = some t → args[j]? = some v → Value.okWide Tryz.prog W .any base t v := hval0
  have hW' := hW
  obtain ⟨p, q, hA0, hV, rfl, hfz, hnd⟩ := hW
  have hA : DataW.TrodAll enc Tryz.prog W 0 (fun _ => true) true Tryz.f3.params.toList args.toList ds p := hA0
  rw [Tryz.params3] at hA hval
  obtain ⟨v0, vs0, d0, ds0, p0, q0, hargs, rfl, rfl, h0, r0⟩ := trodAll_cons hA
  obtain ⟨v1, vs1, d1, ds1, p1, q1, rfl, rfl, rfl, h1, r1⟩ := trodAll_cons r0
  obtain ⟨rfl, rfl, rfl⟩ := trodAll_nil r1
  obtain rfl : args = #[v0, v1] := by cases args; simp_all
  obtain ⟨rfl, rfl⟩ := trodVars_none hV
  obtain ⟨b0, rfl, rfl, rfl⟩ := open_bool Tryz.underlying4 (hval 0 4 v0 rfl rfl) h0
  obtain ⟨a1, rfl, rfl, rfl, w1⟩ := open_int Tryz.underlying3 (hval 1 3 v1 rfl rfl) h1
  clear hA0 hval0
  simp only [List.append_nil] at hW'
  refine (walk b0 a1 w1 W).mono fun e W' ⟨he, hk⟩ => ?_
  subst he
  refine ⟨_, rfl, _, _, _, [], [], [], hW', ?_, ?_, ?_, World.keptBut_mono (fun _ f => f.elim) hk, fun h => by cases h⟩
  · exact trodAll_cons_mk (shut_bool Tryz.underlying4 _) trodAll_mk0
  · exact trodAll_cons_mk (shut_bool Tryz.underlying4 _) (trodAll_cons_mk (shut_int Tryz.underlying3 w1) trodAll_mk0)
  · rfl
theorem bm {a b : Bool} (ha : a = true) (hb : b = true) : (a && b) = true := by rw [ha, hb]; rfl
theorem facts : joinedFacts Tryz.prog 3 Tryz.f3 Rows.fastDeadSpec Rows.fastDeadRow = true := by
  unfold joinedFacts
  exact bm (bm (bm (bm (bm (bm (bm (bm (bm (bm (bm (bm (bm (bm (bm (bm (bm (bm (bm (bm (bm (bm (bm (bm (bm (bm (bm (bm (bm (bm (bm x_wf x_laidOutB) x_mapsRowed) (by kernel_rfl)) x_namedTie) (by kernel_rfl)) (by kernel_rfl)) (by kernel_rfl)) (by kernel_rfl)) x_inPlace) x_unfollowed) x_recurses) x_named) (by kernel_rfl)) (by kernel_rfl)) (by kernel_rfl)) (by kernel_rfl)) (by kernel_rfl)) (by kernel_rfl)) (by kernel_rfl)) (by kernel_rfl)) (by kernel_rfl)) x_plainKeys) (by kernel_rfl)) x_stopsHeard) x_mayEnter) x_lifted) x_make) (by kernel_rfl)) (by kernel_rfl)) (by kernel_rfl)) (by kernel_rfl)
theorem said : Rows.FastDeadSaid :=
  OpenClaim.holds_of_wide 3 Tryz.f3 rfl rfl rfl rfl rfl rfl rfl ⟨rfl, rfl, rfl, rfl, rfl⟩ rfl rfl rfl rfl rfl (by kernel_rfl) Tryz.func3 facts
    (of_decide_eq_true (by kernel_rfl)) (by unfold Func.isWrapper; first | (rw [if_pos (by decide +kernel)]; kernel_rfl) | (rw [if_neg (by decide +kernel)]; exact ⟨rfl, rfl⟩))
    (fun os started H enc _ => lifted os started H enc)
end Go.Proofs.YticoibkgeejkoaaGreatDoor.fastDead
namespace Go.Proofs.YticoibkgeejkoaaGreatDoor
theorem FastDead_holds : Rows.FastDeadCardSaid :=
  Claim7.holds_tied_plain_at .later [] [.data, .handle, .pinned] true (true, "f475a45e9a677f97d4d7ceb24ffc22fb9a1a515a9b15e69728ca0071a84189eb") true
    fastDead.said (fun _ h => by cases h) x_wfByText (fun _ h => by cases h) fastDead_row_tie rfl ⟨rfl, rfl⟩ (by kernel_rfl) rfl
    (fun f fn hf hfn => by
      obtain rfl : f = 3 := Option.some.inj ((show Tryz.prog.funcNamed "keystone/keystonelaw17.FastDead" = some 3 by kernel_rfl).symm.trans hf) |>.symm
      obtain rfl : fn = Tryz.f3 := (Option.some.inj (Tryz.func3.symm.trans hfn)).symm
      exact ⟨x_looks, fun j t ht => by
        rw [Tryz.params3] at ht
        have h3 : t = 4 ∨ t = 3 := by
          rcases j with _ | _ | j
          · exact .inl (by simpa using ht.symm)
          · exact .inr (by simpa using ht.symm)
          · simp at ht
        rcases h3 with rfl | rfl
        · exact (show Tryz.prog.wantsStandIn 4 = false by kernel_rfl)
        · exact (show Tryz.prog.wantsStandIn 3 = false by kernel_rfl)⟩)
    x_goes
end Go.Proofs.YticoibkgeejkoaaGreatDoor
