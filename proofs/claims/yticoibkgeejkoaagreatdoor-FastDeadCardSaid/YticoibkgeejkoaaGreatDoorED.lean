/- Operations, regions, code and functions made ready. · What an operation answers hangs on its operands only. · Light operations: they change nothing. (Printed by genlight.py out of EvW, EvWb, EvWc, EvWd, EvX.) · Light operations, all; operations at frames that are known in part. · Values compared. · Drawn regions: ancestors, and what a set closed under edges holds. · Allocations that are had ahead: what they make is told first, the block comes later. · Operations of a region: what they look at, their guards; regions in their own order. -/
import Derived.Test.YticoibkgeejkoaaGreatDoorEC
import Derived.Orders
set_option linter.unusedVariables false
set_option linter.unusedSimpArgs false
namespace Go.Proofs.YticoibkgeejkoaaGreatDoor
namespace Ev
set_option linter.unusedVariables false
noncomputable section
variable {ρ : Nat → Value} {P : Program} {N : Nat}
def clBin (T : Nat → Option Ty) (op : BinOp) (t : Nat) (x y : Operand) : Cl := match T t with
  | some ⟨.int .i64, _⟩ => match op with
    | .add => ⟨bin1R fAdd (rdOf x) (rdOf y)⟩
    | .sub => ⟨bin1R fSub (rdOf x) (rdOf y)⟩
    | .mul => ⟨bin1R fMul (rdOf x) (rdOf y)⟩
    | .eql => ⟨bin1R fEql (rdOf x) (rdOf y)⟩
    | .neq => ⟨bin1R fNeq (rdOf x) (rdOf y)⟩
    | .lss => ⟨bin1R fLss (rdOf x) (rdOf y)⟩
    | .leq => ⟨bin1R fLeq (rdOf x) (rdOf y)⟩
    | .gtr => ⟨bin1R fGtr (rdOf x) (rdOf y)⟩
    | .geq => ⟨bin1R fGeq (rdOf x) (rdOf y)⟩
    | .and => ⟨bin1R fAnd (rdOf x) (rdOf y)⟩
    | .or => ⟨bin1R fOr (rdOf x) (rdOf y)⟩
    | .xor => ⟨bin1R fXor (rdOf x) (rdOf y)⟩
    | .andNot => ⟨bin1R fAndNot (rdOf x) (rdOf y)⟩
    | .quo => ⟨two aQuo (rdOf x) (rdOf y)⟩
    | .rem => ⟨two aRem (rdOf x) (rdOf y)⟩
    | .shl => ⟨two aShl (rdOf x) (rdOf y)⟩
    | .shr => ⟨two aShr (rdOf x) (rdOf y)⟩
  | some ⟨.int _, _⟩ => match op with
    | .add => ⟨binKR kAdd (rdOf x) (rdOf y)⟩
    | .sub => ⟨binKR kSub (rdOf x) (rdOf y)⟩
    | .mul => ⟨binKR kMul (rdOf x) (rdOf y)⟩
    | .eql => ⟨binKR kEql (rdOf x) (rdOf y)⟩
    | .neq => ⟨binKR kNeq (rdOf x) (rdOf y)⟩
    | .lss => ⟨binKR kLss (rdOf x) (rdOf y)⟩
    | .leq => ⟨binKR kLeq (rdOf x) (rdOf y)⟩
    | .gtr => ⟨binKR kGtr (rdOf x) (rdOf y)⟩
    | .geq => ⟨binKR kGeq (rdOf x) (rdOf y)⟩
    | .and => ⟨binKR kAnd (rdOf x) (rdOf y)⟩
    | .or => ⟨binKR kOr (rdOf x) (rdOf y)⟩
    | .xor => ⟨binKR kXor (rdOf x) (rdOf y)⟩
    | .andNot => ⟨binKR kAndNot (rdOf x) (rdOf y)⟩
    | .quo => ⟨two aQuo (rdOf x) (rdOf y)⟩
    | .rem => ⟨two aRem (rdOf x) (rdOf y)⟩
    | .shl => ⟨two aShl (rdOf x) (rdOf y)⟩
    | .shr => ⟨two aShr (rdOf x) (rdOf y)⟩
  | _ => match op with
    | .add => clAddS x y
    | .eql => clEqx T false t x y
    | .neq => clEqx T true t x y
    | _ => clNo
theorem clBin_ok {T : Nat → Option Ty} (hT : TTok P T) {o : Oper} {op : BinOp} {t yt : TypeId} {x y : Operand} (ho : o.op = .binOp op t x y yt) : Cl.ok P ρ N o (clBin T op t x y) := by
  unfold clBin
  split
  · split
    · exact bin1_ok is_add ho
    · exact bin1_ok is_sub ho
    · exact bin1_ok is_mul ho
    · exact bin1_ok is_eql ho
    · exact bin1_ok is_neq ho
    · exact bin1_ok is_lss ho
    · exact bin1_ok is_leq ho
    · exact bin1_ok is_gtr ho
    · exact bin1_ok is_geq ho
    · exact bin1_ok is_and ho
    · exact bin1_ok is_or ho
    · exact bin1_ok is_xor ho
    · exact bin1_ok is_andNot ho
    · exact clQuo_ok ho
    · exact clRem_ok ho
    · exact clShl_ok ho
    · exact clShr_ok ho
  · split
    · exact binK_ok ik_add ho
    · exact binK_ok ik_sub ho
    · exact binK_ok ik_mul ho
    · exact binK_ok ik_eql ho
    · exact binK_ok ik_neq ho
    · exact binK_ok ik_lss ho
    · exact binK_ok ik_leq ho
    · exact binK_ok ik_gtr ho
    · exact binK_ok ik_geq ho
    · exact binK_ok ik_and ho
    · exact binK_ok ik_or ho
    · exact binK_ok ik_xor ho
    · exact binK_ok ik_andNot ho
    · exact clQuo_ok ho
    · exact clRem_ok ho
    · exact clShl_ok ho
    · exact clShr_ok ho
  · split
    · exact clAddS_ok ho
    · exact clEqx_ok hT rfl ho
    · exact clEqx_ok hT rfl ho
    · exact clNo_ok
def clOf (T : Nat → Option Ty) (Fs : FsT) (o : Oper) : Cl := match o.op with
  | .move x => ⟨moveR (rdOf x)⟩
  | .assign x => ⟨moveR (rdOf x)⟩
  | .pick b x y => ⟨pickR (rdOf b) (rdOf x) (rdOf y)⟩
  | .load t x => clLoad T t (rdOf x)
  | .store t x v => clStore T t (rdOf x) (rdOf v)
  | .box _ x => ⟨boxR (rdOf x)⟩
  | .nilCheck x => ⟨nilR (rdOf x)⟩
  | .extract x i => ⟨extractR i (rdOf x)⟩
  | .fieldAddr s x f => clFieldA T s f (rdOf x)
  | .indexAddr t x y => clIndexA T t (rdOf x) (rdOf y)
  | .binOp op t x y _ => clBin T op t x y
  | .unOp op _ x => clUn op x
  | .convert s d x => clConv T s d x
  | .makeInterface t x => clIface T t x
  | .makeFunc f xs ys => ⟨funcR f (xs.toList.map rdOf) (ys.toList.map rdOf)⟩
  | .makeMap t r => clMap T t r
  | .alloc t => clAlloc T t
  | .makeSlice t x y => clMakeS T t x y
  | .slice t x lo hi mx => clSlice T t x lo hi mx
  | .field t x f => clField T t x f
  | .index t x y => clIdx T t x y
  | .lookup t x k ok => clLook T t x k ok
  | .mapUpdate t x k v => clUpd T t x k v
  | .range t x => clRange T t x
  | .entry x => ⟨entryR (rdOf x)⟩
  | .build t parts => clBuild T t parts.toList
  | .buildSlice t n parts => clRow T t n parts.toList
  | .call ⟨.builtin .len, xs, ats⟩ => clLen T xs.toList ats.toList
  | .call ⟨.builtin .cap, xs, ats⟩ => clCap T xs.toList ats.toList
  | .call ⟨.builtin .append, xs, ats⟩ => clAppI T xs.toList ats.toList
  | .call ⟨.builtin .copy, xs, ats⟩ => clCopy T xs.toList ats.toList
  | .call ⟨.builtin .clear, xs, ats⟩ => clClr T xs.toList ats.toList
  | .call ⟨.value (.func f), xs, _⟩ => clCall Fs f (xs.toList.map rdOf)
  | .call ⟨.value x, xs, _⟩ => ⟨callVR Fs (rdOf x) (xs.toList.map rdOf)⟩
  | .call ⟨.invoke x name, xs, _⟩ => ⟨invR T Fs name (rdOf x) (xs.toList.map rdOf)⟩
  | _ => clNo
theorem clOf_ok (hρ : ∀ i, (ρ i).oneCell = true) {T : Nat → Option Ty} {Fs : FsT} (hT : TTok P T) (hFs : FTok P ρ Fs) (o : Oper) : Cl.ok P ρ N o (clOf T Fs o) := by
  unfold clOf
  split
  · exact clMove_ok (.inl ‹_›)
  · exact clMove_ok (.inr ‹_›)
  · exact clPick_ok ‹_›
  · exact clLoad_ok hT ‹_›
  · exact clStore_ok hρ hT ‹_›
  · exact clBox_ok hρ ‹_›
  · exact clNil_ok ‹_›
  · exact clExtract_ok ‹_›
  · exact clFieldA_ok hT ‹_›
  · exact clIndexA_ok hT ‹_›
  · exact clBin_ok hT ‹_›
  · exact clUn_ok ‹_›
  · exact clConv_ok hT ‹_›
  · exact clIface_ok hT ‹_›
  · exact clFunc_ok ‹_›
  · exact clMap_ok hT ‹_›
  · exact clAlloc_ok hT ‹_›
  · exact clMakeS_ok hT ‹_›
  · exact clSlice_ok hT ‹_›
  · exact clField_ok hT ‹_›
  · exact clIdx_ok hT ‹_›
  · exact clLook_ok hT ‹_›
  · exact clUpd_ok hT ‹_›
  · exact clRange_ok hT ‹_›
  · exact entry_ok ‹_›
  · exact clBuild_ok hρ hT ‹_›
  · exact clRow_ok hρ hT ‹_›
  · exact clLen_ok hT ‹_›
  · exact clCap_ok hT ‹_›
  · exact clAppI_ok hT ‹_›
  · exact clCopy_ok hT ‹_›
  · exact clClr_ok hT ‹_›
  · exact clCall_ok hFs ‹_›
  · rename_i _ ho; exact callV_ok hFs ho
  · rename_i ho; exact inv_ok hT hFs ho
  · exact clNo_ok
end
end Ev
end Go.Proofs.YticoibkgeejkoaaGreatDoor
namespace Go.Proofs.YticoibkgeejkoaaGreatDoor
namespace Ev
set_option linter.unusedVariables false
noncomputable section
variable {ρ : Nat → Value} {P : Program} {N : Nat}
def At (o : Oper) (F F' : NT) : Prop := ∀ x ∈ o.op.operands, (rdOf x).get F = (rdOf x).get F'
def Cl.dep (o : Oper) (cl : Cl) : Prop := ∀ (ch : CH) (F F' : NT) (h : Hp) (c : AV → Hp → Bool), At o F F' → cl.run ch F h c = cl.run ch F' h c
theorem clNo_dep {o : Oper} : Cl.dep o clNo := fun _ _ _ _ _ _ => rfl
theorem dep1 {o : Oper} {x : Operand} {f : AV → Hp → (AV → Hp → Bool) → Bool} (ho : x ∈ o.op.operands) : Cl.dep o ⟨fun _ F h c => f ((rdOf x).get F) h c⟩ := fun _ F F' h c hx => by
  show f _ h c = f _ h c
  rw [hx x ho]
theorem dep2 {o : Oper} {x y : Operand} {f : AV → AV → Hp → (AV → Hp → Bool) → Bool} (ho : x ∈ o.op.operands) (ho2 : y ∈ o.op.operands) : Cl.dep o ⟨fun _ F h c => f ((rdOf x).get F) ((rdOf y).get F) h c⟩ := fun _ F F' h c hx => by
  show f _ _ h c = f _ _ h c
  rw [hx x ho, hx y ho2]
theorem rdsK_at {F F' : NT} : ∀ (l : List Operand), (∀ x ∈ l, (rdOf x).get F = (rdOf x).get F') → rdsK (l.map rdOf) F = rdsK (l.map rdOf) F'
  | [], _ => rfl
  | x :: l, h => by
    show (rdOf x).get F :: rdsK (l.map rdOf) F = (rdOf x).get F' :: rdsK (l.map rdOf) F'
    rw [h x List.mem_cons_self, rdsK_at l fun y hy => h y (List.mem_cons_of_mem _ hy)]
theorem ogK_at {F F' : NT} (o : Option Operand) (h : ∀ x, o = some x → (rdOf x).get F = (rdOf x).get F') : ogK (o.map rdOf) F = ogK (o.map rdOf) F' := by
  cases o with
  | none => rfl
  | some x => show some _ = some _; rw [h x rfl]
theorem prsK_at {F F' : NT} {pl : Nat → Option (Nat × Nat)} : ∀ {l : List (Nat × Operand)} {ps : List ((Nat × Nat) × Rd)}, prOf pl l = some ps → (∀ x ∈ l.map (·.2), (rdOf x).get F = (rdOf x).get F') → prsK ps F = prsK ps F'
  | [], ps, h, _ => by cases h; rfl
  | (i, x) :: l, ps, h, hx => by
    unfold prOf at h
    split at h
    · rename_i p r h1 h2
      cases h
      show (p, (rdOf x).get F) :: prsK r F = (p, (rdOf x).get F') :: prsK r F'
      rw [hx x (by simp), prsK_at h2 fun y hy => hx y (by rw [List.map_cons]; exact List.mem_cons_of_mem _ hy)]
    · cases h
theorem clBin_dep {T : Nat → Option Ty} {o : Oper} {op : BinOp} {t yt : TypeId} {x y : Operand} (ho : o.op = .binOp op t x y yt) : Cl.dep o (clBin T op t x y) := by
  have hx : x ∈ o.op.operands := by rw [ho]; simp [Op.operands]
  have hy : y ∈ o.op.operands := by rw [ho]; simp [Op.operands]
  unfold clBin clAddS clEqx clEq
  repeat' split
  all_goals first
    | exact clNo_dep
    | exact dep2 (f := aI2 _) hx hy
    | exact dep2 (f := aInt2 _) hx hy
    | exact dep2 (f := _) hx hy
theorem clOf_dep (T : Nat → Option Ty) (Fs : FsT) (o : Oper) : Cl.dep o (clOf T Fs o) := by
  unfold clOf
  split
  · rename_i x ho; exact dep1 (f := fun v h c => c v h) (by rw [ho]; simp [Op.operands])
  · rename_i x ho; exact dep1 (f := fun v h c => c v h) (by rw [ho]; simp [Op.operands])
  · rename_i b x y ho
    have h1 : b ∈ o.op.operands ∧ x ∈ o.op.operands ∧ y ∈ o.op.operands := by rw [ho]; simp [Op.operands]
    exact fun _ F F' h c hx => by
      show aPick _ _ _ h c = aPick _ _ _ h c
      rw [hx b h1.1, hx x h1.2.1, hx y h1.2.2]
  · rename_i t x ho
    have h1 : x ∈ o.op.operands := by rw [ho]; simp [Op.operands]
    unfold clLoad
    repeat' split
    all_goals first | exact clNo_dep | exact dep1 (f := aLoadN _) h1 | exact dep1 (f := aLoad1) h1
  · rename_i t x v ho
    have h1 : x ∈ o.op.operands ∧ v ∈ o.op.operands := by rw [ho]; simp [Op.operands]
    unfold clStore
    repeat' split
    all_goals first | exact clNo_dep | exact dep2 (f := aStoreN _) h1.1 h1.2 | exact dep2 (f := aStore1) h1.1 h1.2
  · rename_i t x ho; exact dep1 (f := aBox) (by rw [ho]; simp [Op.operands])
  · rename_i x ho; exact dep1 (f := aNil) (by rw [ho]; simp [Op.operands])
  · rename_i x i ho; exact dep1 (f := fun x h c => tall (aExtractT i x h c)) (by rw [ho]; simp [Op.operands])
  · rename_i s x f ho
    have h1 : x ∈ o.op.operands := by rw [ho]; simp [Op.operands]
    unfold clFieldA
    repeat' split
    all_goals first | exact clNo_dep | exact dep1 (f := aField _) h1
  · rename_i t x y ho
    have h1 : x ∈ o.op.operands ∧ y ∈ o.op.operands := by rw [ho]; simp [Op.operands]
    unfold clIndexA
    repeat' split
    all_goals first | exact clNo_dep | exact dep2 (f := aIndexS _) h1.1 h1.2 | exact dep2 (f := aIndexA _ _) h1.1 h1.2
  · exact clBin_dep ‹_›
  · rename_i op t x ho
    have h1 : x ∈ o.op.operands := by rw [ho]; simp [Op.operands]
    unfold clUn
    repeat' split
    all_goals first | exact clNo_dep | exact dep1 (f := _) h1
  · rename_i s d x ho
    have h1 : x ∈ o.op.operands := by rw [ho]; simp [Op.operands]
    unfold clConv
    repeat' split
    all_goals first | exact clNo_dep | exact dep1 (f := _) h1
  · rename_i t x ho
    have h1 : x ∈ o.op.operands := by rw [ho]; simp [Op.operands]
    unfold clIface
    repeat' split
    all_goals first | exact clNo_dep | exact dep1 (f := _) h1
  · rename_i f xs ys ho
    have h1 : ∀ z, z ∈ xs ∨ z ∈ ys → z ∈ o.op.operands := fun z hz => by rw [ho]; simpa [Op.operands] using hz
    exact fun _ F F' h c hx => by
      show aFunc f _ _ h c = aFunc f _ _ h c
      rw [rdsK_at xs.toList fun x hm => hx x (h1 x (.inl (by simpa using hm))), rdsK_at ys.toList fun x hm => hx x (h1 x (.inr (by simpa using hm)))]
  · unfold clMap
    repeat' split
    all_goals first | exact clNo_dep | exact fun _ _ _ _ _ _ => rfl
  · unfold clAlloc
    repeat' split
    all_goals first | exact clNo_dep | exact fun _ _ _ _ _ _ => rfl
  · rename_i t x y ho
    have h1 : x ∈ o.op.operands ∧ y ∈ o.op.operands := by rw [ho]; simp [Op.operands]
    unfold clMakeS
    repeat' split
    all_goals first | exact clNo_dep | exact dep2 (f := _) h1.1 h1.2
  · rename_i t x lo hi mx ho
    have h1 : ∀ z, (z = x ∨ lo = some z ∨ hi = some z ∨ mx = some z) → z ∈ o.op.operands := fun z hz => by
      rw [ho]; simp only [Op.operands, Array.mem_append, Option.mem_toArray, Array.mem_singleton, List.mem_toArray, List.mem_singleton]
      rcases hz with rfl | rfl | rfl | rfl <;> simp
    unfold clSlice
    repeat' split
    all_goals first
      | exact clNo_dep
      | exact fun _ F F' h c hx => by
          show aSliceT _ _ _ h c = aSliceT _ _ _ h c
          rw [hx x (h1 x (.inl rfl)), ogK_at lo fun z hz => hx z (h1 z (.inr (.inl hz))), ogK_at hi fun z hz => hx z (h1 z (.inr (.inr (.inl hz))))]
      | exact fun _ F F' h c hx => by
          show aSliceL _ _ _ _ _ h c = aSliceL _ _ _ _ _ h c
          rw [hx x (h1 x (.inl rfl)), ogK_at lo fun z hz => hx z (h1 z (.inr (.inl hz))), ogK_at hi fun z hz => hx z (h1 z (.inr (.inr (.inl hz)))), ogK_at mx fun z hz => hx z (h1 z (.inr (.inr (.inr hz))))]
  · rename_i t x f ho
    have h1 : x ∈ o.op.operands := by rw [ho]; simp [Op.operands]
    unfold clField
    repeat' split
    all_goals first | exact clNo_dep | exact dep1 (f := _) h1
  · rename_i t x y ho
    have h1 : x ∈ o.op.operands ∧ y ∈ o.op.operands := by rw [ho]; simp [Op.operands]
    unfold clIdx clIndex
    repeat' split
    all_goals first
      | exact clNo_dep
      | (exact fun _ F F' h c hx => by
          show AV.idxK _ (aIdxN _ _ _ h c) = AV.idxK _ (aIdxN _ _ _ h c)
          rw [hx x h1.1, hx y h1.2])
      | (exact fun _ F F' h c hx => by
          show AV.idxK _ (aIdx1 _ _ _ h c) = AV.idxK _ (aIdx1 _ _ _ h c)
          rw [hx x h1.1, hx y h1.2])
      | exact dep2 (f := _) h1.1 h1.2
  · rename_i t x k ok ho
    have h1 : x ∈ o.op.operands ∧ k ∈ o.op.operands := by rw [ho]; simp [Op.operands]
    unfold clLook
    repeat' split
    all_goals first | exact clNo_dep | exact dep2 (f := aLook _ _ _) h1.1 h1.2
  · rename_i t x k v ho
    have h1 : x ∈ o.op.operands ∧ k ∈ o.op.operands ∧ v ∈ o.op.operands := by rw [ho]; simp [Op.operands]
    unfold clUpd
    repeat' split
    all_goals first
      | exact clNo_dep
      | (exact fun _ F F' h c hx => by
          show aUpd _ _ _ _ h c = aUpd _ _ _ _ h c
          rw [hx x h1.1, hx k h1.2.1, hx v h1.2.2])
  · rename_i t x ho
    have h1 : x ∈ o.op.operands := by rw [ho]; simp [Op.operands]
    unfold clRange
    repeat' split
    all_goals first
      | exact clNo_dep
      | (exact fun _ F F' h c hx => by
          show AV.mapK _ false (rng3 h c) = AV.mapK _ false (rng3 h c)
          rw [hx x h1])
  · rename_i x ho
    have h1 : x ∈ o.op.operands := by rw [ho]; simp [Op.operands]
    exact fun _ F F' h c hx => by
      show AV.ptrK _ (ent4 h c) = AV.ptrK _ (ent4 h c)
      rw [hx x h1]
  · rename_i t ps ho
    have h1 : ∀ z ∈ ps.toList.map (·.2), z ∈ o.op.operands := fun z hz => by rw [ho]; simpa [Op.operands] using hz
    unfold clBuild clB1
    repeat' split
    all_goals first
      | exact clNo_dep
      | (rename_i ps' hps; exact fun _ F F' h c hx => by
          show aBuild _ _ _ h c = aBuild _ _ _ h c
          rw [prsK_at hps fun z hz => hx z (h1 z hz)])
  · rename_i t n ps ho
    have h1 : ∀ z ∈ ps.toList.map (·.2), z ∈ o.op.operands := fun z hz => by rw [ho]; simpa [Op.operands] using hz
    unfold clRow
    repeat' split
    all_goals first
      | exact clNo_dep
      | (rename_i hps; exact fun _ F F' h c hx => by
          show aRow _ _ _ _ h c = aRow _ _ _ _ h c
          rw [prsK_at hps fun z hz => hx z (h1 z hz)])
  · rename_i xs ats ho
    have h1 : ∀ z ∈ xs.toList, z ∈ o.op.operands := fun z hz => by rw [ho]; simpa [Op.operands, Call.operands] using hz
    unfold clLen
    split
    · rename_i x t hx ht
      have h2 : x ∈ o.op.operands := h1 x (by rw [hx]; simp)
      repeat' split
      all_goals first | exact clNo_dep | exact dep1 (f := aLenS) h2 | exact dep1 (f := aLenL) h2
    · exact clNo_dep
  · rename_i xs ats ho
    have h1 : ∀ z ∈ xs.toList, z ∈ o.op.operands := fun z hz => by rw [ho]; simpa [Op.operands, Call.operands] using hz
    unfold clCap
    split
    · rename_i x t hx ht
      have h2 : x ∈ o.op.operands := h1 x (by rw [hx]; simp)
      repeat' split
      all_goals first | exact clNo_dep | exact dep1 (f := aCapL) h2
    · exact clNo_dep
  · rename_i xs ats ho
    have h1 : ∀ z ∈ xs.toList, z ∈ o.op.operands := fun z hz => by rw [ho]; simpa [Op.operands, Call.operands] using hz
    have app : ∀ l m, l = xs.toList → Cl.dep o (clAppend T l m) := fun l m hl => by
      unfold clAppend
      split
      · rename_i x y t u
        have h2 : x ∈ o.op.operands ∧ y ∈ o.op.operands := ⟨h1 x (by rw [← hl]; simp), h1 y (by rw [← hl]; simp)⟩
        repeat' split
        all_goals first | exact clNo_dep | exact dep2 (f := aAppend _ _) h2.1 h2.2
      · exact clNo_dep
    unfold clAppI
    split
    · rename_i x y t u hx ht
      have h2 : x ∈ o.op.operands ∧ y ∈ o.op.operands := ⟨h1 x (by rw [hx]; simp), h1 y (by rw [hx]; simp)⟩
      repeat' split
      all_goals first | exact clNo_dep | exact dep2 (f := aAppI _ _ _) h2.1 h2.2 | exact app _ _ hx.symm
    · exact app _ _ rfl
  · rename_i xs ats ho
    have h1 : ∀ z ∈ xs.toList, z ∈ o.op.operands := fun z hz => by rw [ho]; simpa [Op.operands, Call.operands] using hz
    unfold clCopy
    split
    · rename_i x y t u hx ht
      have h2 : x ∈ o.op.operands ∧ y ∈ o.op.operands := ⟨h1 x (by rw [hx]; simp), h1 y (by rw [hx]; simp)⟩
      repeat' split
      all_goals first | exact clNo_dep | exact dep2 (f := aCopy _) h2.1 h2.2
    · exact clNo_dep
  · rename_i xs ats ho
    have h1 : ∀ z ∈ xs.toList, z ∈ o.op.operands := fun z hz => by rw [ho]; simpa [Op.operands, Call.operands] using hz
    unfold clClr
    split
    · rename_i x t hx ht
      have h2 : x ∈ o.op.operands := h1 x (by rw [hx]; simp)
      repeat' split
      all_goals first | exact clNo_dep | exact dep1 (f := aClr) h2
    · exact clNo_dep
  · rename_i f xs ats ho
    have h1 : ∀ z ∈ xs.toList, z ∈ o.op.operands := fun z hz => by rw [ho]; simpa [Op.operands, Call.operands] using .inr (by simpa using hz)
    unfold clCall
    repeat' split
    all_goals first
      | exact clNo_dep
      | exact fun ch F F' h c hx => by
          show ch f _ h c = ch f _ h c
          rw [rdsK_at xs.toList fun z hz => hx z (h1 z hz)]
      | exact fun ch F F' h c hx => by
          show Fc.run _ ch _ h c = Fc.run _ ch _ h c
          rw [rdsK_at xs.toList fun z hz => hx z (h1 z hz)]
  · rename_i x xs ats _ ho
    have h1 : ∀ z ∈ xs.toList, z ∈ o.op.operands := fun z hz => by rw [ho]; simpa [Op.operands, Call.operands] using .inr (by simpa using hz)
    have h2 : x ∈ o.op.operands := by rw [ho]; simp [Op.operands, Call.operands]
    exact fun ch F F' h c hx => by
      show callVR Fs (rdOf x) _ ch F h c = callVR Fs (rdOf x) _ ch F' h c
      unfold callVR
      rw [hx x h2, rdsK_at xs.toList fun z hz => hx z (h1 z hz)]
  · rename_i x name xs ats ho
    have h1 : ∀ z ∈ xs.toList, z ∈ o.op.operands := fun z hz => by rw [ho]; simpa [Op.operands, Call.operands] using .inr (by simpa using hz)
    have h2 : x ∈ o.op.operands := by rw [ho]; simp [Op.operands, Call.operands]
    exact fun ch F F' h c hx => by
      show invR T Fs name (rdOf x) _ ch F h c = invR T Fs name (rdOf x) _ ch F' h c
      unfold invR
      rw [hx x h2, rdsK_at xs.toList fun z hz => hx z (h1 z hz)]
  · exact clNo_dep
end
end Ev
end Go.Proofs.YticoibkgeejkoaaGreatDoor
namespace Go.Proofs.YticoibkgeejkoaaGreatDoor
namespace Ev
set_option linter.unusedVariables false
noncomputable section
variable {ρ : Nat → Value} {P : Program} {N : Nat}
def LDid (P : Program) (ρ : Nat → Value) (g : G) (h : Hp) (w : World) (o : Oper) (a : Act) (c : AV → Hp → Bool) : Prop :=
  ∃ av v, (execOp a.eval o).run P w = .ok (.value v) w ∧ VR ρ g av v ∧ c av h = true
def Cl.okL (P : Program) (ρ : Nat → Value) (N : Nat) (o : Oper) (cl : Cl) : Prop :=
  ∀ (ch : CH) (F : NT) (h : Hp) (c : AV → Hp → Bool) (g : G) (a : Act) (w : World), cl.run ch F h c = true → FR ρ g N F a.tmps → HR ρ g h w → LDid P ρ g h w o a c
theorem LDid.pur {g : G} {h : Hp} {w : World} {o : Oper} {a : Act} {c : AV → Hp → Bool} {s : Sem Value} (hr : HR ρ g h w) (ho : execOp a.eval o = (do pure (.value (← s)))) (e : Pur P ρ g h w s c) : LDid P ρ g h w o a c := by
  obtain ⟨av, v, h1, h2, h3⟩ := e
  exact ⟨av, v, by rw [ho, Sem.run_bind, h1]; rfl, h2, h3⟩
theorem clNo_okL {o : Oper} : Cl.okL P ρ N o clNo := fun ch F h c g a w e => Bool.noConfusion (show false = true from e)
theorem clMove_okL {o : Oper} {x : Operand} (ho : o.op = .move x ∨ o.op = .assign x) : Cl.okL P ρ N o ⟨moveR (rdOf x)⟩ := fun ch F h c g a w e hF hr =>
  LDid.pur (s := pure (a.eval x)) hr (by rcases ho with ho | ho <;> simp [execOp, ho]) ⟨_, _, rfl, rdOf_ok hF x, e⟩
theorem clPick_okL {o : Oper} {b x y : Operand} (ho : o.op = .pick b x y) : Cl.okL P ρ N o ⟨pickR (rdOf b) (rdOf x) (rdOf y)⟩ := fun ch F h c g a w e hF hr =>
  LDid.pur hr (by simp [execOp, ho]) (aPick_ok e (rdOf_ok hF b) (rdOf_ok hF x) (rdOf_ok hF y))
theorem clLoad_okL {T : Nat → Option Ty} (hT : TTok P T) {o : Oper} {t : TypeId} {x : Operand} (ho : o.op = .load t x) : Cl.okL P ρ N o (clLoad T t (rdOf x)) := fun ch F h c g a w e hF hr => by
  unfold clLoad at e
  split at e
  · exact Bool.noConfusion e
  · rename_i y hy
    obtain ⟨h1, h2⟩ := hT _ _ hy
    split at e
    · rename_i hb
      exact LDid.pur (s := Instr.loadAt t (a.eval x)) hr (by simp [execOp, ho]) (aLoadN_ok (by rw [run_isAggD h1, hb]) h2 rfl e (rdOf_ok hF x) hr)
    · rename_i hb
      exact LDid.pur (s := Instr.loadAt t (a.eval x)) hr (by simp [execOp, ho]) (aLoad1_ok (by rw [run_isAggD h1, hb]) e (rdOf_ok hF x) hr)
theorem clExtract_okL {o : Oper} {x : Operand} {i : Nat} (ho : o.op = .extract x i) : Cl.okL P ρ N o ⟨extractR i (rdOf x)⟩ := fun ch F h c g a w e hF hr =>
  LDid.pur hr (by simp [execOp, ho]) (aExtract_ok ((aExtractT_eq _ _ _ _).symm.trans e) (rdOf_ok hF x))
theorem clFieldA_okL {T : Nat → Option Ty} (hT : TTok P T) {o : Oper} {s : TypeId} {f : Nat} {x : Operand} (ho : o.op = .fieldAddr s x f) : Cl.okL P ρ N o (clFieldA T s f (rdOf x)) := fun ch F h c g a w e hF hr => by
  unfold clFieldA at e
  split at e
  · rename_i fs i hs
    split at e
    · rename_i fd hfd
      split at e
      · rename_i y hy
        split at e
        · rename_i hb
          have hb : 1 ≤ y.info.size := Nat.le_of_ble_eq_true hb
          exact LDid.pur hr (by simp [execOp, ho]) (aField_ok (hT _ _ hs).1 hfd (hT _ _ hy).2 (by omega) e (rdOf_ok hF x))
        · exact Bool.noConfusion e
      · exact Bool.noConfusion e
    · exact Bool.noConfusion e
  · exact Bool.noConfusion e
theorem clIndexA_okL {T : Nat → Option Ty} (hT : TTok P T) {o : Oper} {t : TypeId} {x y : Operand} (ho : o.op = .indexAddr t x y) : Cl.okL P ρ N o (clIndexA T t (rdOf x) (rdOf y)) := fun ch F h c g a w e hF hr => by
  unfold clIndexA at e
  split at e
  · rename_i el i hs
    split at e
    · rename_i ty hy
      exact LDid.pur hr (by simp [execOp, ho]) (aIndexS_ok (hT _ _ hs).1 (hT _ _ hy).2 e (rdOf_ok hF x) (rdOf_ok hF y))
    · exact Bool.noConfusion e
  · rename_i n el i hs
    split at e
    · rename_i ty hy
      exact LDid.pur hr (by simp [execOp, ho]) (aIndexA_ok (hT _ _ hs).1 (hT _ _ hy).2 e (rdOf_ok hF x) (rdOf_ok hF y))
    · exact Bool.noConfusion e
  · exact Bool.noConfusion e
theorem bin1_okL {f : Nat → Nat → AV} {o : Oper} {op : BinOp} {t yt : TypeId} {x y : Operand} (hf : Is2 P op f) (ho : o.op = .binOp op t x y yt) : Cl.okL P ρ N o ⟨bin1R f (rdOf x) (rdOf y)⟩ := fun ch F h c g a w e hF hr =>
  LDid.pur hr (by simp [execOp, ho]) (aI2_ok (t := t) (ox := x) (oy := y) hf e (rdOf_ok hF x) (rdOf_ok hF y))
theorem binK_okL {f : IntKind → Int → Int → AV} {o : Oper} {op : BinOp} {t yt : TypeId} {x y : Operand} (hf : IsK P op f) (ho : o.op = .binOp op t x y yt) : Cl.okL P ρ N o ⟨binKR f (rdOf x) (rdOf y)⟩ := fun ch F h c g a w e hF hr =>
  LDid.pur hr (by simp [execOp, ho]) (aInt2_ok (t := t) (ox := x) (oy := y) hf e (rdOf_ok hF x) (rdOf_ok hF y))
theorem clLen_okL {T : Nat → Option Ty} (hT : TTok P T) {o : Oper} {xs : Array Operand} {ats : Array TypeId} (ho : o.op = .call { callee := .builtin .len, args := xs, argTypes := ats }) : Cl.okL P ρ N o (clLen T xs.toList ats.toList) := fun ch F h c g a w e hF hr => by
  have he := exec_builtin (a := a) ho
  unfold clLen at e
  split at e
  · rename_i l1 l2 x t hx ht
    have hx : xs = #[x] := by rw [← Array.toArray_toList (xs := xs), hx]
    have ht : ats = #[t] := by rw [← Array.toArray_toList (xs := ats), ht]
    subst hx; subst ht
    split at e
    · rename_i i hs
      exact LDid.pur (s := Builtin.len_ #[t] o.type #[a.eval x]) hr (by rw [he, show (#[x].map a.eval) = #[a.eval x] from by simp]; rfl) (aLenS_ok (hT _ _ hs).1 e (rdOf_ok hF x))
    · rename_i el i hs
      exact LDid.pur (s := Builtin.len_ #[t] o.type #[a.eval x]) hr (by rw [he, show (#[x].map a.eval) = #[a.eval x] from by simp]; rfl) (aLenL_ok (hT _ _ hs).1 e (rdOf_ok hF x))
    · exact Bool.noConfusion (show false = true from e)
  · exact Bool.noConfusion (show false = true from e)
theorem clEq_okL {T : Nat → Option Ty} (hT : TTok P T) {neg : Bool} {o : Oper} {op : BinOp} {t yt : TypeId} {x y : Operand} (hop : op = if neg then .neq else .eql) (ho : o.op = .binOp op t x y yt) : Cl.okL P ρ N o (clEq T neg t x y) := fun ch F h c g a w e hF hr => by
  subst hop
  have key : ∀ {c' : AV → Hp → Bool}, Pur P ρ g h w (do eqGuard (if neg then .neq else .eql) t x y (a.eval x) (a.eval y); binOp (if neg then .neq else .eql) t (a.eval x) (a.eval y)) c' → LDid P ρ g h w o a c' := fun p => LDid.pur hr (by simp [execOp, ho]) p
  unfold clEq at e
  split at e
  · exact key (aEqS_ok e (rdOf_ok hF x) (rdOf_ok hF y))
  · rename_i i hs; exact key (aEqB_ok (hT _ _ hs).1 e (rdOf_ok hF x) (rdOf_ok hF y))
  · rename_i el i hs; exact key (aEqL_ok (hT _ _ hs).1 e (rdOf_ok hF x) (rdOf_ok hF y))
  · rename_i kt el i hs; exact key (aEqM_ok (hT _ _ hs).1 e (rdOf_ok hF x) (rdOf_ok hF y))
  · rename_i ps rs v i hs; exact key (aEqF_ok (hT _ _ hs).1 e (rdOf_ok hF x) (rdOf_ok hF y))
  · rename_i el i hs
    split at e
    · rename_i ty hy
      split at e
      · rename_i hb
        have hb : 1 ≤ ty.info.size := Nat.le_of_ble_eq_true hb
        exact key (aEqP_ok (hT _ _ hs).1 (hT _ _ hy).2 (by omega) e (rdOf_ok hF x) (rdOf_ok hF y))
      · exact Bool.noConfusion (show false = true from e)
    · exact Bool.noConfusion (show false = true from e)
  · rename_i ms i hs
    split at e
    · rename_i hb
      exact key (aEqI_ok (hT _ _ hs).1 (by simpa using hb) e (rdOf_ok hF x) (rdOf_ok hF y))
    · exact Bool.noConfusion (show false = true from e)
  · exact Bool.noConfusion (show false = true from e)
theorem clEqx_okL {T : Nat → Option Ty} (hT : TTok P T) {neg : Bool} {o : Oper} {op : BinOp} {t yt : TypeId} {x y : Operand} (hop : op = if neg then .neq else .eql) (ho : o.op = .binOp op t x y yt) : Cl.okL P ρ N o (clEqx T neg t x y) := fun ch F h c g a w e hF hr => by
  unfold clEqx at e
  split at e
  · rename_i ky hk
    subst hop
    exact LDid.pur hr (by simp [execOp, ho]) (aEqA_ok hT hk (ox := x) (oy := y) (kyD_eq hk ▸ (show aEqA (kyD T t) neg ((rdOf x).get F) ((rdOf y).get F) h c = true from e)) (rdOf_ok hF x) (rdOf_ok hF y))
  · exact clEq_okL hT hop ho ch F h c g a w e hF hr
theorem clAddS_okL {o : Oper} {t yt : TypeId} {x y : Operand} (ho : o.op = .binOp .add t x y yt) : Cl.okL P ρ N o (clAddS x y) := fun ch F h c g a w e hF hr =>
  LDid.pur hr (by simp [execOp, ho]) (aAddS_ok (t := t) (ox := x) (oy := y) e (rdOf_ok hF x) (rdOf_ok hF y))
theorem clQuo_okL {o : Oper} {t yt : TypeId} {x y : Operand} (ho : o.op = .binOp .quo t x y yt) : Cl.okL P ρ N o ⟨two aQuo (rdOf x) (rdOf y)⟩ := fun ch F h c g a w e hF hr =>
  LDid.pur hr (by simp [execOp, ho]) (aQuo_ok (t := t) (ox := x) (oy := y) e (rdOf_ok hF x) (rdOf_ok hF y))
theorem clRem_okL {o : Oper} {t yt : TypeId} {x y : Operand} (ho : o.op = .binOp .rem t x y yt) : Cl.okL P ρ N o ⟨two aRem (rdOf x) (rdOf y)⟩ := fun ch F h c g a w e hF hr =>
  LDid.pur hr (by simp [execOp, ho]) (aRem_ok (t := t) (ox := x) (oy := y) e (rdOf_ok hF x) (rdOf_ok hF y))
theorem clShl_okL {o : Oper} {t yt : TypeId} {x y : Operand} (ho : o.op = .binOp .shl t x y yt) : Cl.okL P ρ N o ⟨two aShl (rdOf x) (rdOf y)⟩ := fun ch F h c g a w e hF hr =>
  LDid.pur hr (by simp [execOp, ho]) (aShl_ok (t := t) (ox := x) (oy := y) e (rdOf_ok hF x) (rdOf_ok hF y))
theorem clShr_okL {o : Oper} {t yt : TypeId} {x y : Operand} (ho : o.op = .binOp .shr t x y yt) : Cl.okL P ρ N o ⟨two aShr (rdOf x) (rdOf y)⟩ := fun ch F h c g a w e hF hr =>
  LDid.pur hr (by simp [execOp, ho]) (aShr_ok (t := t) (ox := x) (oy := y) e (rdOf_ok hF x) (rdOf_ok hF y))
theorem clUn_okL {o : Oper} {op : UnOp} {t : TypeId} {x : Operand} (ho : o.op = .unOp op t x) : Cl.okL P ρ N o (clUn op x) := fun ch F h c g a w e hF hr => by
  cases op with
  | not => exact LDid.pur (s := Op.unary .not (a.eval x)) hr (by simp [execOp, ho]) (aNot_ok e (rdOf_ok hF x))
  | neg => exact LDid.pur (s := Op.unary .neg (a.eval x)) hr (by simp [execOp, ho]) (aNeg_ok e (rdOf_ok hF x))
  | _ => exact Bool.noConfusion (show false = true from e)
theorem clConv_okL {T : Nat → Option Ty} (hT : TTok P T) {o : Oper} {s d : TypeId} {x : Operand} (ho : o.op = .convert s d x) : Cl.okL P ρ N o (clConv T s d x) := fun ch F h c g a w e hF hr => by
  unfold clConv at e
  split at e
  · rename_i y k i hs hd
    exact LDid.pur (s := convert s d (a.eval x)) hr (by simp [execOp, ho]) (aConv_ok (hT _ _ hs).1 (hT _ _ hd).1 e (rdOf_ok hF x))
  · exact Bool.noConfusion (show false = true from e)
theorem clIface_okL {T : Nat → Option Ty} (hT : TTok P T) {o : Oper} {t : TypeId} {x : Operand} (ho : o.op = .makeInterface t x) : Cl.okL P ρ N o (clIface T t x) := fun ch F h c g a w e hF hr => by
  unfold clIface at e
  split at e
  · exact Bool.noConfusion (show false = true from e)
  · rename_i y hn hs
    refine LDid.pur (s := Instr.makeInterface t (a.eval x)) hr (by simp [execOp, ho]) (aIface_ok (hT _ _ hs).1 (fun ms hm => ?_) e (rdOf_ok hF x))
    obtain ⟨u, i⟩ := y
    simp only at hm
    subst hm
    exact hn ms i rfl
  · exact Bool.noConfusion (show false = true from e)
theorem clFunc_okL {o : Oper} {f : Fn} {xs ys : Array Operand} (ho : o.op = .makeFunc f xs ys) : Cl.okL P ρ N o ⟨funcR f (xs.toList.map rdOf) (ys.toList.map rdOf)⟩ := fun ch F h c g a w e hF hr =>
  LDid.pur (s := Instr.makeFunc f (xs.map a.eval) (ys.map a.eval)) hr (by simp [execOp, ho]) (aFunc_ok e (by simpa using rdsK_ok hF xs.toList) (by simpa using rdsK_ok hF ys.toList))
theorem clSlice_okL {T : Nat → Option Ty} (hT : TTok P T) {o : Oper} {t : TypeId} {x : Operand} {lo hi mx : Option Operand} (ho : o.op = .slice t x lo hi mx) : Cl.okL P ρ N o (clSlice T t x lo hi mx) := fun ch F h c g a w e hF hr => by
  unfold clSlice at e
  split at e
  · rename_i i hs
    split at e
    · exact LDid.pur (s := Instr.sliceAt t (a.eval x) (lo.map a.eval) (hi.map a.eval) none) hr (by simp [execOp, ho]) (aSliceT_ok (hT _ _ hs).1 e (rdOf_ok hF x) (ogK_ok hF lo) (ogK_ok hF hi))
    · exact Bool.noConfusion (show false = true from e)
  · rename_i el i hs
    split at e
    · exact Bool.noConfusion (show false = true from e)
    · rename_i ty hy
      split at e
      · exact Bool.noConfusion (show false = true from e)
      · rename_i hb
        exact LDid.pur (s := Instr.sliceAt t (a.eval x) (lo.map a.eval) (hi.map a.eval) (mx.map a.eval)) hr (by simp [execOp, ho]) (aSliceL_ok (hT _ _ hs).1 (hT _ _ hy).2 hr e (rdOf_ok hF x) (ogK_ok hF lo) (ogK_ok hF hi) (ogK_ok hF mx) (by
          cases mx <;> cases hi <;> simp at hb ⊢))
  · exact Bool.noConfusion (show false = true from e)
theorem clField_okL {T : Nat → Option Ty} (hT : TTok P T) {o : Oper} {t : TypeId} {x : Operand} {f : Nat} (ho : o.op = .field t x f) : Cl.okL P ρ N o (clField T t x f) := fun ch F h c g a w e hF hr => by
  have hx : execOp a.eval o = (do pure (.value (← Instr.field t (a.eval x) f))) := by simp [execOp, ho]
  unfold clField at e
  split at e
  · rename_i fs i hs
    split at e
    · exact Bool.noConfusion (show false = true from e)
    · rename_i fd hfd
      have key : ∀ {c' : AV → Hp → Bool}, Pur P ρ g h w (do part fd.type (← asAgg (a.eval x)) fd.offset) c' → LDid P ρ g h w o a c' := fun ⟨av, v, h1, h2, h3⟩ => LDid.pur hr hx ⟨av, v, by
        simp only [Instr.field, Sem.run_bind, run_underlying (hT _ _ hs).1, Result.andThen_ok, hfd]
        simpa [Sem.run_bind] using h1, h2, h3⟩
      split at e
      · exact Bool.noConfusion (show false = true from e)
      · rename_i y hy
        split at e
        · rename_i hb; exact key (aPartN_ok (by rw [run_isAggD (hT _ _ hy).1, hb]) (hT _ _ hy).2 rfl e (rdOf_ok hF x))
        · rename_i hb; exact key (aPart1_ok (by rw [run_isAggD (hT _ _ hy).1, hb]) e (rdOf_ok hF x))
  · exact Bool.noConfusion (show false = true from e)
theorem clIndex_okL {T : Nat → Option Ty} (hT : TTok P T) {o : Oper} {t : TypeId} {x y : Operand} (ho : o.op = .index t x y) : Cl.okL P ρ N o (clIndex T t x y) := fun ch F h c g a w e hF hr => by
  unfold clIndex at e
  split at e
  · rename_i i hs
    exact LDid.pur (s := Instr.index t (a.eval x) (a.eval y)) hr (by simp [execOp, ho]) (aIndexT_ok (hT _ _ hs).1 e (rdOf_ok hF x) (rdOf_ok hF y))
  · exact Bool.noConfusion (show false = true from e)
theorem clBuild_okL (hρ : ∀ i, (ρ i).oneCell = true) {T : Nat → Option Ty} (hT : TTok P T) {o : Oper} {t : TypeId} {parts : Array (Nat × Operand)} (ho : o.op = .build t parts) : Cl.okL P ρ N o (clBuild T t parts.toList) := fun ch F h c g a w e hF hr => by
  have hx : execOp a.eval o = (do pure (.value (← Instr.build t (parts.map fun x => (x.1, a.eval x.2))))) := by simp [execOp, ho]
  have hvs : (parts.map fun x => (x.1, a.eval x.2)).toList = parts.toList.map fun x => (x.1, a.eval x.2) := by simp
  unfold clBuild at e
  split at e
  · rename_i n el it hs
    split at e
    · rename_i z y hz hf hy
      obtain ⟨z2, z3⟩ := zeroFits_some hf hz
      unfold clB1 at e
      split at e
      · exact Bool.noConfusion (show false = true from e)
      · rename_i ps hps
        refine LDid.pur hr hx (aBuild_ok hρ (z := z) (place := fun i => some (i * y.info.size, y.info.size)) (fun cs hc => ?_) (ofCells_len z2) (ofCells_ok z g) z3 (by rw [hvs]; exact prOf_ok hF hps) e)
        unfold Program.built
        rw [(hT _ _ hs).2, (hT _ _ hs).1]
        simp only [hz, (hT _ _ hy).2]
        exact hc
    · exact Bool.noConfusion (show false = true from e)
  · rename_i fs it hs
    split at e
    · rename_i z pls hz hf hpl
      obtain ⟨z2, z3⟩ := zeroFits_some hf hz
      unfold clB1 at e
      split at e
      · exact Bool.noConfusion (show false = true from e)
      · rename_i ps hps
        refine LDid.pur hr hx (aBuild_ok hρ (z := z) (place := fun i => pls[i]?) (fun cs hc => ?_) (ofCells_len z2) (ofCells_ok z g) z3 (by rw [hvs]; exact prOf_ok hF hps) e)
        unfold Program.built
        rw [(hT _ _ hs).2, (hT _ _ hs).1]
        simp only [hz, plsOf_ok hT hpl]
        rw [← hc]
        congr 1
        funext i
        simp
    · exact Bool.noConfusion (show false = true from e)
  · exact Bool.noConfusion (show false = true from e)
theorem clBin_okL {T : Nat → Option Ty} (hT : TTok P T) {o : Oper} {op : BinOp} {t yt : TypeId} {x y : Operand} (ho : o.op = .binOp op t x y yt) : Cl.okL P ρ N o (clBin T op t x y) := by
  unfold clBin
  split
  · split
    · exact bin1_okL is_add ho
    · exact bin1_okL is_sub ho
    · exact bin1_okL is_mul ho
    · exact bin1_okL is_eql ho
    · exact bin1_okL is_neq ho
    · exact bin1_okL is_lss ho
    · exact bin1_okL is_leq ho
    · exact bin1_okL is_gtr ho
    · exact bin1_okL is_geq ho
    · exact bin1_okL is_and ho
    · exact bin1_okL is_or ho
    · exact bin1_okL is_xor ho
    · exact bin1_okL is_andNot ho
    · exact clQuo_okL ho
    · exact clRem_okL ho
    · exact clShl_okL ho
    · exact clShr_okL ho
  · split
    · exact binK_okL ik_add ho
    · exact binK_okL ik_sub ho
    · exact binK_okL ik_mul ho
    · exact binK_okL ik_eql ho
    · exact binK_okL ik_neq ho
    · exact binK_okL ik_lss ho
    · exact binK_okL ik_leq ho
    · exact binK_okL ik_gtr ho
    · exact binK_okL ik_geq ho
    · exact binK_okL ik_and ho
    · exact binK_okL ik_or ho
    · exact binK_okL ik_xor ho
    · exact binK_okL ik_andNot ho
    · exact clQuo_okL ho
    · exact clRem_okL ho
    · exact clShl_okL ho
    · exact clShr_okL ho
  · split
    · exact clAddS_okL ho
    · exact clEqx_okL hT rfl ho
    · exact clEqx_okL hT rfl ho
    · exact clNo_okL
end
end Ev
end Go.Proofs.YticoibkgeejkoaaGreatDoor
namespace Go.Proofs.YticoibkgeejkoaaGreatDoor
namespace Ev
set_option linter.unusedVariables false
noncomputable section
variable {ρ : Nat → Value} {P : Program} {N : Nat}
theorem clNil_okL {o : Oper} {x : Operand} (ho : o.op = .nilCheck x) : Cl.okL P ρ N o ⟨nilR (rdOf x)⟩ := fun ch F h c g a w e hF hr => by
  obtain ⟨h1, h2⟩ := aNil_ok (P := P) (w := w) e (rdOf_ok hF x)
  have he : execOp a.eval o = ckNil P (a.eval x) := by rw [execOp, ho]; rfl
  exact ⟨_, _, by rw [he, h1], rdOf_ok hF x, h2⟩
theorem clLook_okL {T : Nat → Option Ty} (hT : TTok P T) {o : Oper} {t : TypeId} {x k : Operand} {ok : Bool} (ho : o.op = .lookup t x k ok) : Cl.okL P ρ N o (clLook T t x k ok) := fun ch F h c g a w e hF hr =>
  LDid.pur (s := Instr.lookup t (a.eval x) (a.eval k) ok) hr (by simp [execOp, ho]) (clLook_pur hT e hF hr)
theorem clIdx_okL {T : Nat → Option Ty} (hT : TTok P T) {o : Oper} {t : TypeId} {x y : Operand} (ho : o.op = .index t x y) : Cl.okL P ρ N o (clIdx T t x y) := by
  unfold clIdx
  split
  · rename_i n el it hs
    split
    · rename_i ty hy
      intro ch F h c g a w e hF hr
      refine LDid.pur (s := Instr.index t (a.eval x) (a.eval y)) hr (by simp [execOp, ho]) (clIdx_pur (ch := ch) hT hs hy ?_ hF hr)
      cases hb : isAggD ty.und <;> rw [hb] at e <;> exact e
    · exact clNo_okL
  · exact clIndex_okL hT ho
theorem entry_okL {o : Oper} {x : Operand} (ho : o.op = .entry x) : Cl.okL P ρ N o ⟨entryR (rdOf x)⟩ := fun ch F h c g a w e hF hr =>
  LDid.pur (s := Instr.entry (a.eval x)) hr (by simp [execOp, ho]) (entry_pur (ch := ch) e hF hr)
def isLight (o : Oper) : Bool := match o.op with
  | .move _ | .pick _ _ _ | .load _ _ | .nilCheck _ | .extract _ _ | .fieldAddr _ _ _ | .indexAddr _ _ _ | .binOp _ _ _ _ _ | .unOp _ _ _ | .convert _ _ _ | .makeInterface _ _ | .makeFunc _ _ _ | .slice _ _ _ _ _ | .field _ _ _ | .index _ _ _ | .build _ _ | .lookup _ _ _ _ | .entry _ => true
  | .call ⟨.builtin .len, _, _⟩ => true
  | _ => false
theorem clOf_okL (hρ : ∀ i, (ρ i).oneCell = true) {T : Nat → Option Ty} {Fs : FsT} (hT : TTok P T) (o : Oper) (hl : isLight o = true) : Cl.okL P ρ N o (clOf T Fs o) := by
  unfold clOf
  split
  all_goals first
    | exact clNo_okL
    | (rename_i ho
       first
         | exact clMove_okL (.inl ho)
         | exact clMove_okL (.inr ho)
         | exact clPick_okL ho
         | exact clLoad_okL hT ho
         | exact clNil_okL ho
         | exact clExtract_okL ho
         | exact clFieldA_okL hT ho
         | exact clIndexA_okL hT ho
         | exact clBin_okL hT ho
         | exact clUn_okL ho
         | exact clConv_okL hT ho
         | exact clIface_okL hT ho
         | exact clFunc_okL ho
         | exact clSlice_okL hT ho
         | exact clField_okL hT ho
         | exact clIdx_okL hT ho
         | exact clLook_okL hT ho
         | exact entry_okL ho
         | exact clBuild_okL hρ hT ho
         | exact clLen_okL hT ho
         | (unfold isLight at hl; rw [ho] at hl; exact Bool.noConfusion (show false = true from hl)))
def NA.of (f : D → AV) : NA := ⟨f .d0, f .d1, f .d2, f .d3, f .d4, f .d5, f .d6, f .d7, f .d8, f .d9, f .d10, f .d11, f .d12, f .d13, f .d14, f .d15⟩
def NT.of (f : D → D → AV) : NT := ⟨NA.of (f .d0), NA.of (f .d1), NA.of (f .d2), NA.of (f .d3), NA.of (f .d4), NA.of (f .d5), NA.of (f .d6), NA.of (f .d7), NA.of (f .d8), NA.of (f .d9), NA.of (f .d10), NA.of (f .d11), NA.of (f .d12), NA.of (f .d13), NA.of (f .d14), NA.of (f .d15)⟩
theorem NT.get_of (f : D → D → AV) (p q : D) : tget p q (NT.of f) = f p q := by cases p <;> cases q <;> rfl
theorem part_frame {g : G} {o : Oper} {F : NT} {a : Act} (hN : N ≤ a.tmps.size) (hx : ∀ x ∈ o.op.operands, VR ρ g ((rdOf x).get F) (a.eval x)) : ∃ F', FR ρ g N F' a.tmps ∧ At o F F' := by
  classical
  refine ⟨NT.of fun p q => if Operand.tmp (16 * p.num + q.num) ∈ o.op.operands then tget p q F else .undef, ⟨hN, fun p q => ?_⟩, fun x hm => ?_⟩
  · rw [NT.get_of]
    by_cases hm : Operand.tmp (16 * p.num + q.num) ∈ o.op.operands
    · rw [if_pos hm]
      have h1 := hx _ hm
      have k1 := D.num_lt p; have k2 := D.num_lt q
      have hb : Nat.ble (16 * p.num + q.num + 1) 256 = true := Nat.ble_eq_true_of_le (by omega)
      simp only [rdOf, hb] at h1
      have hpl := plOf_num (t := 16 * p.num + q.num) (by omega)
      have k3 := D.num_lt (plOf (16 * p.num + q.num)).p; have k4 := D.num_lt (plOf (16 * p.num + q.num)).q
      have e1 : (plOf (16 * p.num + q.num)).p = p := D.num_inj (by omega)
      have e2 : (plOf (16 * p.num + q.num)).q = q := D.num_inj (by omega)
      unfold Pl.get at h1
      rw [e1, e2] at h1
      exact h1
    · rw [if_neg hm]; exact .undef _
  · cases x with
    | tmp t =>
      simp only [rdOf]
      split
      · rename_i hb
        have ht : t < 256 := Nat.le_of_ble_eq_true hb
        show tget (plOf t).p (plOf t).q F = tget (plOf t).p (plOf t).q (NT.of _)
        rw [NT.get_of, plOf_num ht, if_pos hm]
      · rfl
    | const v => rfl
    | global _ => rfl
    | func f => rfl
theorem Cl.okL.part {g : G} {h : Hp} {w : World} {o : Oper} {cl : Cl} {a : Act} {F : NT} {ch : CH} {c : AV → Hp → Bool} (hk : Cl.okL P ρ N o cl) (hd : Cl.dep o cl) (e : cl.run ch F h c = true) (hN : N ≤ a.tmps.size)
    (hx : ∀ x ∈ o.op.operands, VR ρ g ((rdOf x).get F) (a.eval x)) (hr : HR ρ g h w) : LDid P ρ g h w o a c := by
  obtain ⟨F', hF, hat⟩ := part_frame hN hx
  exact hk ch F' h c g a w (by rw [← hd ch F F' h c hat]; exact e) hF hr
theorem Cl.ok.part {g : G} {h : Hp} {w : World} {o : Oper} {cl : Cl} {a : Act} {F : NT} {ch : CH} {c : AV → Hp → Bool} (hk : Cl.ok P ρ N o cl) (hd : Cl.dep o cl) (hch : CHok P ρ ch) (e : cl.run ch F h c = true) (hN : N ≤ a.tmps.size)
    (hx : ∀ x ∈ o.op.operands, VR ρ g ((rdOf x).get F) (a.eval x)) (hr : HR ρ g h w) : Did P ρ g h w o a c := by
  obtain ⟨F', hF, hat⟩ := part_frame hN hx
  exact hk ch F' h c g a w hch (by rw [← hd ch F F' h c hat]; exact e) hF hr
end
end Ev
end Go.Proofs.YticoibkgeejkoaaGreatDoor
namespace Go.Proofs.YticoibkgeejkoaaGreatDoor
namespace Ev
set_option linter.unusedVariables false
noncomputable section
def dEq (a b : D) : Bool := Nat.beq a.num b.num
def lEq (a b : L) : Bool := dEq a.d0 b.d0 && (dEq a.d1 b.d1 && (dEq a.d2 b.d2 && dEq a.d3 b.d3))
theorem dEq_true {a b : D} (h : dEq a b = true) : a = b := D.num_inj (Nat.eq_of_beq_eq_true h)
theorem lEq_true {a b : L} (h : lEq a b = true) : a = b := by
  unfold lEq at h
  simp only [Bool.and_eq_true] at h
  obtain ⟨h0, h1, h2, h3⟩ := h
  cases a; cases b
  rw [L.mk.injEq]
  exact ⟨dEq_true h3, dEq_true h2, dEq_true h1, dEq_true h0⟩
def fnEq : Fn → Fn → Bool
  | .func i, .func j => Nat.beq i j
  | _, _ => false
theorem fnEq_true {a b : Fn} (h : fnEq a b = true) : a = b := by
  unfold fnEq at h
  split at h
  · rw [Nat.eq_of_beq_eq_true h]
  · cases h
mutual
def avEq : AV → AV → Bool
  | .undef, w => match w with | .undef => true | _ => false
  | .i64 u, w => match w with | .i64 v => Nat.beq u v | _ => false
  | .int k n, w => match w with | .int j m => kindEq k j && decide (n = m) | _ => false
  | .bool a, w => match w with | .bool b => decide (a = b) | _ => false
  | .str n x, w => match w with | .str m y => Nat.beq n m && Nat.beq x y | _ => false
  | .nilp, w => match w with | .nilp => true | _ => false
  | .ptr l o, w => match w with | .ptr m p => lEq l m && Nat.beq o p | _ => false
  | .nils, w => match w with | .nils => true | _ => false
  | .slice l o n c, w => match w with | .slice m p k d => lEq l m && (Nat.beq o p && (Nat.beq n k && Nat.beq c d)) | _ => false
  | .nilm, w => match w with | .nilm => true | _ => false
  | .map l, w => match w with | .map m => lEq l m | _ => false
  | .nilf, w => match w with | .nilf => true | _ => false
  | .fn f a b, w => match w with | .fn g c d => fnEq f g && (avEqs a c && avEqs b d) | _ => false
  | .nili, w => match w with | .nili => true | _ => false
  | .iface t v, w => match w with | .iface u w => Nat.beq t u && avEq v w | _ => false
  | .agg n l, w => match w with | .agg m k => Nat.beq n m && avEqs l k | _ => false
  | .tup l, w => match w with | .tup k => avEqs l k | _ => false
  | .sym i, w => match w with | .sym j => Nat.beq i j | _ => false
  | .yl l, w => match w with | .yl m => lEq l m | _ => false
def avEqs : List AV → List AV → Bool
  | [], w => match w with | [] => true | _ => false
  | a :: l, w => match w with | b :: m => avEq a b && avEqs l m | _ => false
end
mutual
theorem avEq_true : ∀ {a b : AV}, avEq a b = true → a = b
  | .undef, b, h => by unfold avEq at h; split at h; rfl; cases h
  | .i64 u, b, h => by unfold avEq at h; split at h; rw [Nat.eq_of_beq_eq_true h]; cases h
  | .int k n, b, h => by
    unfold avEq at h
    split at h
    · simp at h; rw [kindEq_true h.1, h.2]
    · cases h
  | .bool a, b, h => by unfold avEq at h; split at h; rw [of_decide_eq_true h]; cases h
  | .str n x, b, h => by
    unfold avEq at h
    split at h
    · simp only [Bool.and_eq_true] at h; rw [Nat.eq_of_beq_eq_true h.1, Nat.eq_of_beq_eq_true h.2]
    · cases h
  | .nilp, b, h => by unfold avEq at h; split at h; rfl; cases h
  | .ptr l o, b, h => by
    unfold avEq at h
    split at h
    · simp only [Bool.and_eq_true] at h; rw [lEq_true h.1, Nat.eq_of_beq_eq_true h.2]
    · cases h
  | .nils, b, h => by unfold avEq at h; split at h; rfl; cases h
  | .slice l o n c, b, h => by
    unfold avEq at h
    split at h
    · simp only [Bool.and_eq_true] at h; rw [lEq_true h.1, Nat.eq_of_beq_eq_true h.2.1, Nat.eq_of_beq_eq_true h.2.2.1, Nat.eq_of_beq_eq_true h.2.2.2]
    · cases h
  | .nilm, b, h => by unfold avEq at h; split at h; rfl; cases h
  | .map l, b, h => by unfold avEq at h; split at h; rw [lEq_true h]; cases h
  | .nilf, b, h => by unfold avEq at h; split at h; rfl; cases h
  | .fn f a c, b, h => by
    unfold avEq at h
    split at h
    · simp only [Bool.and_eq_true] at h; rw [fnEq_true h.1, avEqs_true h.2.1, avEqs_true h.2.2]
    · cases h
  | .nili, b, h => by unfold avEq at h; split at h; rfl; cases h
  | .iface t v, b, h => by
    unfold avEq at h
    split at h
    · simp only [Bool.and_eq_true] at h; rw [Nat.eq_of_beq_eq_true h.1, avEq_true h.2]
    · cases h
  | .agg n l, b, h => by
    unfold avEq at h
    split at h
    · simp only [Bool.and_eq_true] at h; rw [Nat.eq_of_beq_eq_true h.1, avEqs_true h.2]
    · cases h
  | .tup l, b, h => by unfold avEq at h; split at h; rw [avEqs_true h]; cases h
  | .sym i, b, h => by unfold avEq at h; split at h; rw [Nat.eq_of_beq_eq_true h]; cases h
  | .yl l, b, h => by unfold avEq at h; split at h; rw [lEq_true h]; cases h
theorem avEqs_true : ∀ {l m : List AV}, avEqs l m = true → l = m
  | [], m, h => by unfold avEqs at h; split at h; rfl; cases h
  | a :: l, m, h => by
    unfold avEqs at h
    split at h
    · simp only [Bool.and_eq_true] at h; rw [avEq_true h.1, avEqs_true h.2]
    · cases h
end
end
end Ev
end Go.Proofs.YticoibkgeejkoaaGreatDoor
namespace Go.Proofs.YticoibkgeejkoaaGreatDoor
namespace Ev
set_option linter.unusedVariables false
def Edg (ops : Array Oper) (i j : Nat) : Prop := ∃ o, ops[j]? = some o ∧ ∃ e ∈ o.after, Region.binds .any e = true ∧ e.on = i
inductive Anc (ops : Array Oper) : Nat → Nat → Prop
  | one {i j : Nat} (h : Edg ops i j) : Anc ops i j
  | step {i j k : Nat} (h : Edg ops i j) (t : Anc ops j k) : Anc ops i k
theorem Anc.trans {ops : Array Oper} {i j k : Nat} (h : Anc ops i j) (t : Anc ops j k) : Anc ops i k := by
  induction h with
  | one h => exact .step h t
  | step h _ ih => exact .step h (ih t)
def Clo (ops : Array Oper) (S : Nat → Prop) : Prop := ∀ i j, Edg ops i j → S j → S i
theorem Clo.anc {ops : Array Oper} {S : Nat → Prop} (hc : Clo ops S) {i j : Nat} (h : Anc ops i j) (hj : S j) : S i := by
  induction h with
  | one h => exact hc _ _ h hj
  | step h _ ih => exact hc _ _ h (ih hj)
theorem Clo.ready {ops : Array Oper} {S : Nat → Prop} (hc : Clo ops S) {j : Nat} (hr : ∀ i, Edg ops i j → S i) {i : Nat} (h : Anc ops i j) : S i := by
  induction h with
  | one h => exact hr _ h
  | step h _ ih => exact hc _ _ h (ih hr)
theorem Clo.put {ops : Array Oper} {S : Nat → Prop} (hc : Clo ops S) {k : Nat} (hr : ∀ i, Edg ops i k → S i) : Clo ops (fun j => S j ∨ j = k) := fun i j he hj => by
  rcases hj with hj | rfl
  · exact .inl (hc i j he hj)
  · exact .inl (hr i he)
end Ev
end Go.Proofs.YticoibkgeejkoaaGreatDoor
namespace Go.Proofs.YticoibkgeejkoaaGreatDoor
namespace Ev
set_option linter.unusedVariables false
noncomputable section
variable {ρ : Nat → Value} {g : G} {h : Hp} {w : World} {P : Program} {N : Nat}
structure StA (ρ : Nat → Value) (l : L) (g : G) (h : Hp) (w : World) (g' : G) (w' : World) : Prop where
  le : g.le g'
  hr : HR ρ g' h w'
  os : w'.os = w.os
  tape : w'.tape = w.tape
  output : w'.output = w.output
  size : w.heap.size ≤ w'.heap.size
  fr : ∀ b, b < w.heap.size → w'.heap[b]? = w.heap[b]? ∧ (free g h b → free g' h b)
  un : ∀ l', l' ≠ l → g.blk l' = none → g'.blk l' = none
theorem HR.late {l : L} (hr : HR ρ g h w) (hb : g.blk l = none) (hl0 : l.num < h.nx.num) (ob : Obj) (f s : Nat) {obj : AO} (ho : h.get l = obj ∨ h.get l = .none)
    (hor : OR ρ (g.ext l w.heap.size 0 f s) { w with heap := w.heap.push ob } l w.heap.size 0 f s obj) : StA ρ l g h w (g.ext l w.heap.size 0 f s) { w with heap := w.heap.push ob } := by
  have hle := G.ext_le hb w.heap.size 0 f s
  obtain ⟨e1, e2, e3⟩ := g.ext_new l w.heap.size 0 f s
  have hold : ∀ l' p, l' ≠ l → (g.ext l w.heap.size 0 f s).blk l' = some p → g.blk l' = some p := fun l' p hl hp => by
    unfold G.ext at hp; simp only [if_neg hl] at hp; exact hp
  have hpush : ∀ k, k < w.heap.size → (w.heap.push ob)[k]? = w.heap[k]? := fun k hk => by rw [Array.getElem?_push, if_neg (by omega)]
  refine ⟨hle, ⟨fun l' b' c' hb' => ?_, fun l1 l2 b' c1 c2 x1 x2 n1 n2 => ?_, fun l' b' c' hb' => ?_, fun l' p hp => ?_⟩, rfl, rfl, rfl, by simp, fun k hk => ⟨hpush k hk, fun hf l' c' hb' => ?_⟩, fun l' hl' hn' => ?_⟩
  · by_cases hl : l' = l
    · subst hl
      rw [e1] at hb'
      obtain ⟨rfl, rfl⟩ := Prod.mk.inj (Option.some.inj hb')
      rw [e2, e3]
      rcases ho with ho | ho
      · rw [ho]; exact hor
      · rw [ho]; trivial
    · have hb'' := hold _ _ hl hb'
      rw [(hle.1 _ _ hb'').2.1, (hle.1 _ _ hb'').2.2]
      exact OR.mono (hpush b' (hr.lt _ _ _ hb'')) hle (hle.2 _ _ hb'') (hr.ob _ _ _ hb'')
  · by_cases h1 : l1 = l
    · by_cases h2 : l2 = l
      · rw [h1, h2]
      · subst h1
        rw [e1] at x1
        obtain ⟨rfl, rfl⟩ := Prod.mk.inj (Option.some.inj x1)
        exact absurd (hr.lt _ _ _ (hold _ _ h2 x2)) (Nat.lt_irrefl _)
    · by_cases h2 : l2 = l
      · subst h2
        rw [e1] at x2
        obtain ⟨rfl, rfl⟩ := Prod.mk.inj (Option.some.inj x2)
        exact absurd (hr.lt _ _ _ (hold _ _ h1 x1)) (Nat.lt_irrefl _)
      · exact hr.inj _ _ _ _ _ (hold _ _ h1 x1) (hold _ _ h2 x2) n1 n2
  · by_cases hl : l' = l
    · subst hl
      rw [e1] at hb'
      obtain ⟨rfl, rfl⟩ := Prod.mk.inj (Option.some.inj hb')
      simp
    · have := hr.lt _ _ _ (hold _ _ hl hb'); simp; omega
  · by_cases hl : l' = l
    · rw [hl]; exact hl0
    · exact hr.nx _ _ (hold _ _ hl hp)
  · by_cases hl : l' = l
    · subst hl
      rw [e1] at hb'
      have := (Prod.mk.inj (Option.some.inj hb')).1
      omega
    · exact hf _ _ (hold _ _ hl hb')
  · unfold G.ext; simp only [if_neg hl']; exact hn'
inductive Kd where
  | p
  | s (n k : Nat)
  | m
def Kd.av (l : L) (kd : Kd) : AV := Kd.rec (motive := fun _ => AV) (.ptr l (nat_lit 0)) (fun n k => .slice l (nat_lit 0) n (Nat.succ k)) (.map l) kd
theorem VR.kp {l : L} {b : Nat} (h : g.blk l = some (b, 0)) : VR ρ g (Kd.p.av l) (.pointer (some ⟨b, 0, none⟩)) := .ptr l 0 b 0 h
theorem VR.ks {l : L} {b n k : Nat} (h : g.blk l = some (b, 0)) : VR ρ g ((Kd.s n k).av l) (.slice (some ⟨b, 0, none⟩) n k) := .slice l 0 n k b 0 h
theorem VR.km {l : L} {b : Nat} (h : g.blk l = some (b, 0)) : VR ρ g (Kd.m.av l) (.map (some b)) := .map l b 0 h
structure Al where
  run : NT → Option (AO × Kd)
def AlF (P : Program) (ρ : Nat → Value) (N : Nat) (o : Oper) (F : NT) (l : L) (obj : AO) (kd : Kd) : Prop :=
  ∀ (g : G) (a : Act) (w : World) (h : Hp), FR ρ g N F a.tmps → HR ρ g h w → g.blk l = none → (h.get l = obj ∨ h.get l = .none) → l.num < h.nx.num →
    ∃ v g' w', (execOp a.eval o).run P w = .ok (.value v) w' ∧ StA ρ l g h w g' w' ∧ VR ρ g' (kd.av l) v
def Al.ok (P : Program) (ρ : Nat → Value) (N : Nat) (o : Oper) (al : Al) : Prop := ∀ F obj kd, al.run F = some (obj, kd) → ∀ l, AlF P ρ N o F l obj kd
def Al.dep (o : Oper) (al : Al) : Prop := ∀ F F', At o F F' → al.run F = al.run F'
def alNo : Al := ⟨fun _ => none⟩
theorem alNo_ok {o : Oper} : Al.ok P ρ N o alNo := fun F obj kd e => by cases e
theorem alNo_dep {o : Oper} : Al.dep o alNo := fun _ _ _ => rfl
def AV.cellsA : AV → Option (List AV)
  | .undef => none
  | .agg _ l => some l
  | .tup _ => none
  | v => some [v]
theorem VR.cellsA (hρ : ∀ i, (ρ i).oneCell = true) {a : AV} {v : Value} {l : List AV} (hv : VR ρ g a v) (e : a.cellsA = some l) : VRs ρ g l v.cells.toList ∧ ∀ u ∈ v.cells.toList, u.oneCell = true := by
  have one : (a ≠ .undef) → (∀ n l, a ≠ .agg n l) → (∀ l, a ≠ .tup l) → l = [a] → VRs ρ g l v.cells.toList ∧ ∀ u ∈ v.cells.toList, u.oneCell = true := fun n1 n2 n3 hl => by
    have hone := hv.one hρ n1 n2 n3
    rw [one_cells hone, hl]
    exact ⟨.cons _ _ _ _ hv .nil, fun u hu => by rw [List.mem_singleton.1 hu]; exact hone⟩
  cases a with
  | agg n m =>
    cases e
    cases hv with
    | agg _ _ cs a1 a2 a3 => exact ⟨a1, a3⟩
  | undef => cases e
  | tup m => cases e
  | _ => exact one (by simp) (by simp) (by simp) (by unfold AV.cellsA at e; exact (Option.some.inj e).symm)
theorem var_late {l : L} {k : Nat} {la : List AV} {cs : Array Value} {t : TypeId} (hr : HR ρ g h w) (hb : g.blk l = none) (hl : l.num < h.nx.num) (hk : 1 ≤ k) (hlen : la.length = k)
    (ho : h.get l = .cells k false 1 (.n la .e .e) ∨ h.get l = .none) (hv : VRs ρ g la cs.toList) (h1 : ∀ v ∈ cs.toList, v.oneCell = true) :
    StA ρ l g h w (g.ext l w.heap.size 0 k k) { w with heap := w.heap.push (.cells cs t) } ∧ VR ρ (g.ext l w.heap.size 0 k k) (Kd.p.av l) (.pointer (some ⟨w.heap.size, 0, none⟩)) := by
  refine ⟨hr.late hb hl _ k k ho (OR.var (e := t) hk hlen (by simp) (hv.mono (G.ext_le hb _ _ _ _)) h1), VR.kp (g.ext_new _ _ _ _ _).1⟩
def alAlloc (T : Nat → Option Ty) (t : Nat) : Al := match T t with
  | none => alNo
  | some y => match y.info.zero, zeroFits y.info, Nat.ble 1 y.info.size with
    | some z, true, true => ⟨fun _ => some (.cells y.info.size false 1 (.n (ofCells z) .e .e), .p)⟩
    | _, _, _ => alNo
theorem exec_ok {a : Act} {o : Oper} {s : Sem Value} {v : Value} {w w' : World} (ho : execOp a.eval o = (do pure (.value (← s)))) (e : s.run P w = .ok v w') : (execOp a.eval o).run P w = .ok (.value v) w' := by
  rw [ho, Sem.run_bind, e]; rfl
theorem alAlloc_ok {T : Nat → Option Ty} (hT : TTok P T) {o : Oper} {t : TypeId} (ho : o.op = .alloc t) : Al.ok P ρ N o (alAlloc T t) := fun F obj kd e l g a w h hF hr hb hob hl => by
  unfold alAlloc at e
  split at e
  · cases e
  · rename_i y hy
    split at e
    · rename_i z hz hf hk
      have hk : 1 ≤ y.info.size := Nat.le_of_ble_eq_true hk
      obtain ⟨z2, z3⟩ := zeroFits_some hf hz
      cases e
      obtain ⟨s1, s2⟩ := var_late (cs := z.cells) (t := t) hr hb hl hk (ofCells_len z2) hob (ofCells_ok z g) z3
      refine ⟨_, _, _, exec_ok (s := Instr.alloc t true (.tuple #[])) (by simp [execOp, ho]) ?_, s1, s2⟩
      simp [Instr.alloc, zeroValue, typeInfo, (hT _ _ hy).2, hz, newVar, newRow, newObj, Sem.run]
    · cases e
theorem alAlloc_dep {T : Nat → Option Ty} {o : Oper} {t : TypeId} : Al.dep o (alAlloc T t) := fun F F' _ => by
  unfold alAlloc
  repeat' split
  all_goals rfl
def boxV (x : AV) : Option (AO × Kd) := match x.cellsA with
  | some la => match Nat.ble 1 la.length with
    | true => some (.cells la.length false 1 (.n la .e .e), .p)
    | false => none
  | none => none
def boxA (r : Rd) (F : NT) : Option (AO × Kd) := boxV (r.get F)
theorem alBox_ok (hρ : ∀ i, (ρ i).oneCell = true) {o : Oper} {t : TypeId} {x : Operand} (ho : o.op = .box t x) : Al.ok P ρ N o ⟨boxA (rdOf x)⟩ := fun F obj kd e l g a w h hF hr hb hob hl => by
  have e : boxA (rdOf x) F = some (obj, kd) := e
  unfold boxA boxV at e
  split at e
  · rename_i la hla
    split at e
    · rename_i hk
      have hk : 1 ≤ la.length := Nat.le_of_ble_eq_true hk
      cases e
      obtain ⟨c1, c2⟩ := VR.cellsA hρ (rdOf_ok hF x) hla
      obtain ⟨s1, s2⟩ := var_late (cs := (a.eval x).cells) (t := t) hr hb hl hk rfl hob c1 c2
      refine ⟨_, _, _, exec_ok (s := Instr.box t (a.eval x)) (by simp [execOp, ho]) ?_, s1, s2⟩
      simp [Instr.box, newVar, newRow, newObj, Sem.run]
    · cases e
  · cases e
theorem alBox_dep {o : Oper} {t : TypeId} {x : Operand} (ho : o.op = .box t x) : Al.dep o ⟨boxA (rdOf x)⟩ := fun F F' hx => by
  show boxA _ _ = boxA _ _
  unfold boxA
  rw [hx x (by rw [ho]; simp [Op.operands])]
def alMap (T : Nat → Option Ty) (t : Nat) (r : Option Operand) : Al := match r with
  | none => ⟨fun _ => some (.map 0 [] [], .m)⟩
  | some (.const (.int _ _)) => match T t with
    | some ⟨.map _ _, _⟩ => ⟨fun _ => some (.map 0 [] [], .m)⟩
    | _ => alNo
  | _ => alNo
theorem alMap_ok {T : Nat → Option Ty} (hT : TTok P T) {o : Oper} {t : TypeId} {r : Option Operand} (ho : o.op = .makeMap t r) : Al.ok P ρ N o (alMap T t r) := fun F obj kd e l g a w h hF hr hb hob hl => by
  have fin : ∀ (rv : Option Value), execOp a.eval o = (do pure (.value (← Instr.makeMap t rv))) → (rv = none ∨ ((∃ k e, P.underlying t = some (.map k e)) ∧ ∃ k n, rv = some (.int k n))) → some ((.map 0 [] [] : AO), Kd.m) = some (obj, kd) →
      ∃ v g' w', (execOp a.eval o).run P w = .ok (.value v) w' ∧ StA ρ l g h w g' w' ∧ VR ρ g' (kd.av l) v := fun rv hx hrv e => by
    cases e
    have hor : OR ρ (g.ext l w.heap.size 0 0 0) { w with heap := w.heap.push (.map #[] 0) } l w.heap.size 0 0 0 (.map 0 [] []) :=
      ⟨#[], by simp, .nil, .nil, rfl⟩
    refine ⟨.map (some w.heap.size), _, _, exec_ok hx ?_, hr.late hb hl (.map #[] 0) 0 0 hob hor, VR.km (g.ext_new _ _ _ _ _).1⟩
    rcases hrv with rfl | ⟨⟨k, el, h1⟩, k', n, rfl⟩
    · simp [Instr.makeMap, newObj, Sem.run_bind, Sem.run]
    · simp [Instr.makeMap, newObj, Sem.run_bind, Sem.run, run_underlying h1, asInt, asIntOf, Result.andThen]
  unfold alMap at e
  split at e
  · exact fin none (by simp [execOp, ho]) (.inl rfl) e
  · rename_i k n
    split at e
    · rename_i kt el i hs
      exact fin (some (.int k n)) (by simp [execOp, ho, Act.eval]) (.inr ⟨⟨kt, el, (hT _ _ hs).1⟩, k, n, rfl⟩) e
    · cases e
  · cases e
theorem alMap_dep {T : Nat → Option Ty} {o : Oper} {t : TypeId} {r : Option Operand} : Al.dep o (alMap T t r) := fun F F' _ => by
  unfold alMap
  repeat' split
  all_goals rfl
def idxA1 (u : Nat) : Option Nat := match Nat.ble (nat_lit 9223372036854775808) u with
    | true => some (Nat.sub u (nat_lit 9223372036854775808))
    | false => none
def AV.idxA : AV → Option Nat
  | .i64 u => idxA1 u
  | .int _ (.ofNat m) => some m
  | _ => none
theorem AV.idxA_ok {v : AV} {m : Nat} {vv : Value} (e : v.idxA = some m) (hv : VR ρ g v vv) : ∃ k : IntKind, vv = .int k (m : Int) := by
  have h1 : ∀ u, idxA1 u = some m → 9223372036854775808 ≤ u ∧ m = u - 9223372036854775808 := fun u h => by
    unfold idxA1 at h
    split at h
    · rename_i hb
      exact ⟨Nat.le_of_ble_eq_true hb, (Option.some.inj h).symm⟩
    · cases h
  cases v with
  | i64 u =>
    obtain ⟨h2, h3⟩ := h1 u e
    obtain ⟨rfl, hu⟩ := hv.inv_i64
    exact ⟨.i64, by congr 1; omega⟩
  | int k n =>
    cases n with
    | ofNat q => cases e; exact ⟨k, hv.inv_int⟩
    | negSucc q => cases e
  | _ => cases e
def makeV (s b : Nat) (zs : List AV) (x y : AV) : Option (AO × Kd) := match x.idxA, y.idxA with
  | some n, some m => match Nat.ble 1 s && Nat.ble n m && Nat.ble (b * m) 140737488355328 && Nat.ble m 4294967295 with
    | true => some (.cells s false m (CT.fil zs 32 m), .s n m)
    | false => none
  | _, _ => none
def makeA (s b : Nat) (zs : List AV) (rx ry : Rd) (F : NT) : Option (AO × Kd) := makeV s b zs (rx.get F) (ry.get F)
def alMake (T : Nat → Option Ty) (t : Nat) (x y : Operand) : Al := match T t with
  | some ⟨.slice el, _⟩ => match T el with
    | none => alNo
    | some ty => match ty.info.zero, zeroFits ty.info with
      | some z, true => ⟨makeA ty.info.size ty.info.bytes (ofCells z) (rdOf x) (rdOf y)⟩
      | _, _ => alNo
  | _ => alNo
theorem alMake_ok {T : Nat → Option Ty} (hT : TTok P T) {o : Oper} {t : TypeId} {x y : Operand} (ho : o.op = .makeSlice t x y) : Al.ok P ρ N o (alMake T t x y) := fun F obj kd e l g a w h hF hr hb hob hl => by
  unfold alMake at e
  split at e
  · rename_i el it hs
    split at e
    · cases e
    · rename_i ty hy
      split at e
      · rename_i z hz hf
        obtain ⟨z2, z3⟩ := zeroFits_some hf hz
        have e : makeA ty.info.size ty.info.bytes (ofCells z) (rdOf x) (rdOf y) F = some (obj, kd) := e
        unfold makeA makeV at e
        split at e
        · rename_i n m hn hm
          split at e
          · rename_i hb1
            simp only [Bool.and_eq_true] at hb1
            obtain ⟨⟨⟨e0, e1⟩, e2⟩, e3⟩ := hb1
            have e0 := Nat.le_of_ble_eq_true e0
            have e1 := Nat.le_of_ble_eq_true e1
            have e2 := Nat.le_of_ble_eq_true e2
            have e3 := Nat.le_of_ble_eq_true e3
            cases e
            obtain ⟨k, hk⟩ := AV.idxA_ok hn (rdOf_ok hF x)
            obtain ⟨k', hk'⟩ := AV.idxA_ok hm (rdOf_ok hF y)
            obtain ⟨h1, hi⟩ : P.underlying t = some (.slice el) ∧ P.info? el = some ty.info := ⟨(hT _ _ hs).1, (hT _ _ hy).2⟩
            have hsz : (madeCells z.cells (m * ty.info.size)).size = m * ty.info.size := size_madeCells _ _
            have hbb : (ty.info.bytes : Int) * (m : Int) ≤ 281474976710656 := by
              have h : ((ty.info.bytes * m : Nat) : Int) ≤ 281474976710656 := by omega
              rwa [Int.natCast_mul] at h
            have hrun := run_make (P := P) w t el ty.info z h1 hi hz k k' n m (by omega) (by omega) hbb (by omega)
            simp only [Int.toNat_natCast] at hrun
            have hone : ∀ v ∈ (madeCells z.cells (m * ty.info.size)).toList, v.oneCell = true := fun v hv => by
              obtain ⟨j, hj⟩ := List.getElem?_of_mem hv
              rw [Array.getElem?_toList] at hj
              have hjm : j < m * ty.info.size := by rw [← hsz]; exact (Array.getElem?_eq_some_iff.1 hj).1
              rw [made_get _ _ _ hjm] at hj
              have hmod : j % z.cells.size < z.cells.size := Nat.mod_lt _ (by omega)
              rw [getElem!_pos z.cells (j % z.cells.size) hmod] at hj
              cases hj
              exact z3 _ (Array.mem_toList_iff.2 (Array.getElem_mem _))
            have hor : OR ρ (g.ext l w.heap.size 0 (m * ty.info.size) ty.info.size) (w.alloc (.cells (madeCells z.cells (m * ty.info.size)) el)) l w.heap.size 0 (m * ty.info.size) ty.info.size (.cells ty.info.size false m (CT.fil (ofCells z) 32 m)) := by
              refine ⟨_, el, (0, 0), by show (w.heap.push _)[w.heap.size]? = _; simp, hsz, fun j _ => by simp, by omega, fun _ => by omega, ⟨e0, rfl⟩, fun q hq => ?_, fun j v hj => hone v (Array.mem_toList_iff.2 (Array.mem_of_getElem? hj)), fun o a ho => ?_⟩
              · rw [CT.fil_get 32 m q (by omega) hq, ofCells_len z2]
              · unfold cellOf at ho
                split at ho
                case isFalse => cases ho
                case isTrue ho1 =>
                have hq : o / ty.info.size < m := by rw [Nat.div_lt_iff_lt_mul (by omega)]; exact ho1
                rw [CT.fil_get 32 m _ (by omega) hq] at ho
                obtain ⟨v, hv1, hv2⟩ := VRs.get (ofCells_ok z (g.ext l w.heap.size 0 (m * ty.info.size) ty.info.size)) (o % ty.info.size) a ho
                refine ⟨v, ?_, hv2⟩
                rw [Nat.zero_add, made_get _ _ _ ho1, z2]
                rw [Array.getElem?_toList] at hv1
                have hlt := (Array.getElem?_eq_some_iff.1 hv1).1
                rw [getElem!_pos z.cells (o % ty.info.size) hlt]
                rw [Array.getElem?_eq_getElem hlt] at hv1
                exact hv1
            refine ⟨_, _, _, exec_ok (s := Instr.makeSlice t (a.eval x) (a.eval y)) (by simp [execOp, ho]) (by rw [hk, hk']; exact hrun), hr.late hb hl _ _ _ hob hor, ?_⟩
            exact VR.ks (g.ext_new _ _ _ _ _).1
          · cases e
        · cases e
      · cases e
  · cases e
theorem alMake_dep {T : Nat → Option Ty} {o : Oper} {t : TypeId} {x y : Operand} (ho : o.op = .makeSlice t x y) : Al.dep o (alMake T t x y) := fun F F' hx => by
  have h1 : x ∈ o.op.operands ∧ y ∈ o.op.operands := by rw [ho]; simp [Op.operands]
  unfold alMake
  repeat' split
  all_goals first
    | rfl
    | (show makeA _ _ _ _ _ _ = makeA _ _ _ _ _ _
       unfold makeA
       rw [hx x h1.1, hx y h1.2])
def CT.tab : Nat → Nat → (Nat → List AV) → CT
  | 0, _, _ => .e
  | f + 1, m, p => match Nat.beq m 0 with
    | true => .e
    | false => .n (p 0) (CT.tab f (m / 2) fun j => p (2 * j + 1)) (CT.tab f ((m - 1) / 2) fun j => p (2 * j + 2))
theorem CT.tab_get : ∀ (f m q : Nat) (p : Nat → List AV), m < 2 ^ f → q < m → (CT.tab f m p).get q = p q
  | 0, m, q, p, hf, hq => by simp at hf; omega
  | f + 1, m, q, p, hf, hq => by
    have : Nat.beq m 0 = false := by rw [← Bool.not_eq_true]; intro e; have := Nat.eq_of_beq_eq_true e; omega
    unfold CT.tab
    rw [this]
    simp only
    rw [Nat.pow_succ] at hf
    unfold CT.get
    by_cases h0 : q = 0
    · rw [if_pos h0, h0]
    · rw [if_neg h0]
      by_cases h1 : q % 2 = 1
      · rw [if_pos h1, CT.tab_get f _ _ _ (by omega) (by omega)]
        congr 1; omega
      · rw [if_neg h1, CT.tab_get f _ _ _ (by omega) (by omega)]
        congr 1; omega
def fillA : List ((Nat × Nat) × AV) → List AV → Option (List AV)
  | [], l => some l
  | p :: ps, l => match p.2.cellsA with
    | none => none
    | some m => match Nat.beq m.length p.1.2 && Nat.ble (p.1.1 + p.1.2) l.length with
      | true => fillA ps (l.take p.1.1 ++ m ++ l.drop (p.1.1 + p.1.2))
      | false => none
theorem over_get_list {l m : List AV} {o n : Nat} (hm : m.length = n) (hl : o + n ≤ l.length) : (l.take o ++ m ++ l.drop (o + n)).length = l.length ∧ ∀ i : Nat, (l.take o ++ m ++ l.drop (o + n))[i]? = if o ≤ i ∧ i < o + n then m[i - o]? else l[i]? := by
  refine ⟨by simp; omega, fun i => ?_⟩
  have ht : (l.take o).length = o := by rw [List.length_take]; omega
  by_cases h1 : i < o
  · rw [List.append_assoc, List.getElem?_append_left (by omega), List.getElem?_take_of_lt h1, if_neg (by omega)]
  · by_cases h2 : i < o + n
    · rw [if_pos (by omega), List.getElem?_append_left (by rw [List.length_append]; omega), List.getElem?_append_right (by omega), ht]
    · rw [if_neg (by omega), List.getElem?_append_right (by rw [List.length_append]; omega), List.getElem?_drop, List.length_append, ht, hm]
      congr 1; omega
theorem fillA_ok (hρ : ∀ i, (ρ i).oneCell = true) {place : Nat → Option (Nat × Nat)} : ∀ {ps : List ((Nat × Nat) × AV)} {vs : List (Nat × Value)} {la la' : List AV} {cs : Array Value}, fillA ps la = some la' → PVR ρ g place ps vs → VRs ρ g la cs.toList → (∀ v ∈ cs.toList, v.oneCell = true) →
    ∃ cs', Instr.fill place cs vs = some cs' ∧ la'.length = la.length ∧ VRs ρ g la' cs'.toList ∧ (∀ v ∈ cs'.toList, v.oneCell = true)
  | [], [], la, la', cs, e, _, h1, h2 => by cases e; exact ⟨cs, rfl, rfl, h1, h2⟩
  | (p, a) :: ps, (i, v) :: vs, la, la', cs, e, hp, h1, h2 => by
    obtain ⟨p1, p2, p3⟩ := hp
    unfold fillA at e
    split at e
    · cases e
    · rename_i m hm
      split at e
      · rename_i hb
        rw [Bool.and_eq_true] at hb
        have e1 : m.length = p.2 := Nat.eq_of_beq_eq_true hb.1
        have e2 : p.1 + p.2 ≤ la.length := Nat.le_of_ble_eq_true hb.2
        obtain ⟨c1, c2⟩ := VR.cellsA hρ p2 hm
        obtain ⟨l1, l2⟩ := over_get_list e1 e2
        have el := VRs.length h1
        have em := VRs.length c1
        have e3 : cs.toList.length = cs.size := rfl
        have e4 : v.cells.toList.length = v.cells.size := rfl
        have hfit : p.1 + v.cells.toList.length ≤ cs.size := by omega
        obtain ⟨cs', f1, f2, f3, f4⟩ := fillA_ok hρ (place := place) (ps := ps) (vs := vs) (cs := over cs p.1 v.cells.toList) e p3 (over_rel h1 c1 e1 l1 e2 l2) (over_one hfit h2 c2)
        refine ⟨cs', ?_, by rw [f2, l1], f3, f4⟩
        unfold Instr.fill
        rw [p1]
        simp only
        rw [if_neg (by simp; omega), ← f1]
        congr 1
        have := foldl_over p.1 v.cells.toList 0 cs
        rw [Nat.add_zero] at this
        rw [← this, ← Array.foldl_toList, Array.toList_zipIdx]
      · cases e
  | [], _ :: _, _, _, _, _, hp, _, _ => hp.elim
  | _ :: _, [], _, _, _, _, hp, _, _ => hp.elim
def rowV (s n : Nat) (zs : List AV) (ps : List ((Nat × Nat) × AV)) : Option (AO × Kd) := match fillA ps zs, Nat.ble 1 s && Nat.ble (n + 1) 4294967296 with
  | some la, true => some (.cells s false n (CT.tab 32 n fun q => (la.drop (q * s)).take s), .s n n)
  | _, _ => none
def rowA (s n : Nat) (zs : List AV) (ps : List ((Nat × Nat) × Rd)) (F : NT) : Option (AO × Kd) := rowV s n zs (prsK ps F)
def alRow (T : Nat → Option Ty) (t n : Nat) (parts : List (Nat × Operand)) : Al := match T t with
  | some ⟨.slice el, _⟩ => match T el with
    | none => alNo
    | some y => match y.info.zero, zeroFits y.info, Nat.ble (n * y.info.size) 16777216, prOf (fun i => some (i * y.info.size, y.info.size)) parts with
      | some z, true, true, some ps => ⟨rowA y.info.size n (repL (ofCells z) n) ps⟩
      | _, _, _, _ => alNo
  | _ => alNo
theorem alRow_ok (hρ : ∀ i, (ρ i).oneCell = true) {T : Nat → Option Ty} (hT : TTok P T) {o : Oper} {t : TypeId} {n : Nat} {parts : Array (Nat × Operand)} (ho : o.op = .buildSlice t n parts) : Al.ok P ρ N o (alRow T t n parts.toList) := fun F obj kd e l g a w h hF hr hb hob hl => by
  have hx : execOp a.eval o = (do pure (.value (← Instr.buildSlice t n (parts.map fun x => (x.1, a.eval x.2))))) := by simp [execOp, ho]
  have hvs : (parts.map fun x => (x.1, a.eval x.2)).toList = parts.toList.map fun x => (x.1, a.eval x.2) := by simp
  unfold alRow at e
  split at e
  · rename_i el it hs
    split at e
    · cases e
    · rename_i y hy
      split at e
      · rename_i z ps hz hf hb1 hps
        obtain ⟨z2, z3⟩ := zeroFits_some hf hz
        have hlim : n * y.info.size ≤ 16777216 := Nat.le_of_ble_eq_true hb1
        have e : rowA y.info.size n (repL (ofCells z) n) ps F = some (obj, kd) := e
        unfold rowA rowV at e
        split at e
        case h_2 => cases e
        rename_i la hla hk
        rw [Bool.and_eq_true] at hk
        have hk1 : 1 ≤ y.info.size := Nat.le_of_ble_eq_true hk.1
        have hk2 : n + 1 ≤ 4294967296 := Nat.le_of_ble_eq_true hk.2
        cases e
        have hz1 : ∀ v ∈ ((Array.range (n * y.info.size)).map (z.cells[· % z.cells.size]!)).toList, v.oneCell = true := fun v hv => by
          obtain ⟨i, hi⟩ := List.getElem?_of_mem hv
          rw [Array.getElem?_toList, Array.getElem?_map, Array.getElem?_range] at hi
          split at hi
          · rename_i hlt
            simp only [Option.map_some, Option.some.injEq] at hi
            have hm : i % z.cells.size < z.cells.size := Nat.mod_lt _ (by omega)
            rw [getElem!_pos z.cells _ hm] at hi
            rw [← hi]
            exact z3 _ (Array.mem_toList_iff.2 (Array.getElem_mem _))
          · cases hi
        have hpv := prOf_ok (ρ := ρ) (N := N) (a := a) hF hps
        obtain ⟨cs, f1, f2, f3, f4⟩ := fillA_ok hρ hla hpv (repL_ok (g := g) z2 n) hz1
        obtain ⟨h1, hi⟩ : P.underlying t = some (.slice el) ∧ P.info? el = some y.info := ⟨(hT _ _ hs).1, (hT _ _ hy).2⟩
        have hlen : la.length = n * y.info.size := by
          rw [f2]
          have := VRs.length (repL_ok (ρ := ρ) (g := g) z2 n)
          rw [this]; simp
        have hcl := VRs.length f3
        have hcs : cs.toList.length = cs.size := rfl
        have hor : OR ρ (g.ext l w.heap.size 0 (n * y.info.size) y.info.size) { w with heap := w.heap.push (.cells cs el) } l w.heap.size 0 (n * y.info.size) y.info.size (.cells y.info.size false n (CT.tab 32 n fun q => (la.drop (q * y.info.size)).take y.info.size)) :=
          OR.row (e := el) hk1 (by omega) (by omega) (fun _ => rfl) (Nat.le_refl _) (by simp) (fun p hp => CT.tab_get 32 n p _ (by omega) hp) (fun j a _ ha => by
            obtain ⟨v, hv1, hv2⟩ := VRs.get f3 j a ha
            exact ⟨v, by rw [← Array.getElem?_toList]; exact hv1, hv2.mono (G.ext_le hb _ _ _ _)⟩) f4
        refine ⟨.slice (some ⟨w.heap.size, 0, none⟩) n n, _, _, exec_ok hx ?_, hr.late hb hl (.cells cs el) _ _ hob hor, VR.ks (g.ext_new _ _ _ _ _).1⟩
        rw [← hvs] at f1
        generalize (parts.map fun x => (x.1, a.eval x.2)) = vs at f1 ⊢
        by_cases h0 : n * y.info.size = 0
        · rw [h0] at f1
          have f2 : Instr.fill (fun j => some (j * y.info.size, y.info.size)) #[] vs.toList = some cs := by rw [Array.range_zero'] at f1; simpa using f1
          simp [Instr.buildSlice, Sem.run_bind, run_underlying h1, sizeOf, run_typeInfo w hi, h0, f2, Array.range_zero', newRow, newObj, Sem.run]
        · have hzv : (zeroValue el).run P w = .ok z w := by simp [zeroValue, run_typeInfo w hi, hz, Sem.run_bind, Result.andThen]
          simp [Instr.buildSlice, Sem.run_bind, run_underlying h1, sizeOf, run_typeInfo w hi, h0, hlim, hzv, f1, newRow, newObj, Sem.run, Result.andThen]
      · cases e
  · cases e
theorem alRow_dep {T : Nat → Option Ty} {o : Oper} {t : TypeId} {n : Nat} {parts : Array (Nat × Operand)} (ho : o.op = .buildSlice t n parts) : Al.dep o (alRow T t n parts.toList) := fun F F' hx => by
  have h1 : ∀ z ∈ parts.toList.map (·.2), z ∈ o.op.operands := fun z hz => by rw [ho]; simpa [Op.operands] using hz
  unfold alRow
  repeat' split
  all_goals first
    | rfl
    | (rename_i hps
       show rowA _ _ _ _ _ = rowA _ _ _ _ _
       unfold rowA
       rw [prsK_at hps fun z hz => hx z (h1 z hz)])
def alOf (T : Nat → Option Ty) (o : Oper) : Al := match o.op with
  | .alloc t => alAlloc T t
  | .box _ x => ⟨boxA (rdOf x)⟩
  | .makeMap t r => alMap T t r
  | .makeSlice t x y => alMake T t x y
  | .buildSlice t n ps => alRow T t n ps.toList
  | _ => alNo
def isAl (o : Oper) : Bool := match o.op with
  | .alloc _ | .box _ _ | .makeMap _ _ | .makeSlice _ _ _ | .buildSlice _ _ _ => true
  | _ => false
theorem alOf_ok (hρ : ∀ i, (ρ i).oneCell = true) {T : Nat → Option Ty} (hT : TTok P T) (o : Oper) : Al.ok P ρ N o (alOf T o) := by
  unfold alOf
  split
  · exact alAlloc_ok hT ‹_›
  · exact alBox_ok hρ ‹_›
  · exact alMap_ok hT ‹_›
  · exact alMake_ok hT ‹_›
  · exact alRow_ok hρ hT ‹_›
  · exact alNo_ok
theorem alOf_dep (T : Nat → Option Ty) (o : Oper) : Al.dep o (alOf T o) := by
  unfold alOf
  split
  · exact alAlloc_dep
  · exact alBox_dep ‹_›
  · exact alMap_dep
  · exact alMake_dep ‹_›
  · exact alRow_dep ‹_›
  · exact alNo_dep
end
end Ev
end Go.Proofs.YticoibkgeejkoaaGreatDoor
namespace Go.Proofs.YticoibkgeejkoaaGreatDoor
namespace Ev
set_option linter.unusedVariables false
noncomputable section
variable {ρ : Nat → Value} {g : G} {h : Hp} {w : World} {P : Program} {N : Nat}
def semO (ops : Array Oper) (a : Act) (o : Oper) : Sem Next := if Region.wanted o (yielded ops a.tmps) = true then execOp a.eval o else pure .skip
def looks (ops : Array Oper) (o : Oper) : List Operand := match o.guard with
  | none => o.op.operands.toList
  | some (j, _) => match (ops[j]?).bind (·.dst) with
    | some d => .tmp d :: o.op.operands.toList
    | none => o.op.operands.toList
theorem looks_ops {ops : Array Oper} {o : Oper} {x : Operand} (h : x ∈ o.op.operands) : x ∈ looks ops o := by
  have h : x ∈ o.op.operands.toList := by simpa using h
  unfold looks
  repeat' split
  · exact h
  · exact List.mem_cons_of_mem _ h
  · exact h
def Lk (ρ : Nat → Value) (N : Nat) (ops : Array Oper) (o : Oper) (g : G) (F : NT) (a : Act) : Prop := N ≤ a.tmps.size ∧ ∀ x ∈ looks ops o, VR ρ g ((rdOf x).get F) (a.eval x)
theorem FR.lk {ops : Array Oper} {o : Oper} {F : NT} {a : Act} (e : FR ρ g N F a.tmps) : Lk ρ N ops o g F a := ⟨e.1, fun x _ => rdOf_ok e x⟩
def maskF (l : List Operand) (F : NT) : NT := open Classical in NT.of fun p q => if Operand.tmp (16 * p.num + q.num) ∈ l then tget p q F else .undef
theorem mask_at {l : List Operand} {F : NT} {x : Operand} (hm : x ∈ l) : (rdOf x).get (maskF l F) = (rdOf x).get F := by
  cases x with
  | tmp t =>
    simp only [rdOf]
    split
    · rename_i hb
      have ht : t < 256 := Nat.le_of_ble_eq_true hb
      show tget (plOf t).p (plOf t).q (NT.of _) = tget (plOf t).p (plOf t).q F
      rw [NT.get_of, plOf_num ht, if_pos hm]
    · rfl
  | const v => rfl
  | global _ => rfl
  | func f => rfl
theorem mask_fr {l : List Operand} {F : NT} {a : Act} (hN : N ≤ a.tmps.size) (hx : ∀ x ∈ l, VR ρ g ((rdOf x).get F) (a.eval x)) : FR ρ g N (maskF l F) a.tmps := by
  refine ⟨hN, fun p q => ?_⟩
  unfold maskF
  rw [NT.get_of]
  by_cases hm : Operand.tmp (16 * p.num + q.num) ∈ l
  · rw [if_pos hm]
    have h1 := hx _ hm
    have k1 := D.num_lt p; have k2 := D.num_lt q
    have hb : Nat.ble (16 * p.num + q.num + 1) 256 = true := Nat.ble_eq_true_of_le (by omega)
    simp only [rdOf, hb] at h1
    have hpl := plOf_num (t := 16 * p.num + q.num) (by omega)
    have k3 := D.num_lt (plOf (16 * p.num + q.num)).p; have k4 := D.num_lt (plOf (16 * p.num + q.num)).q
    have e1 : (plOf (16 * p.num + q.num)).p = p := D.num_inj (by omega)
    have e2 : (plOf (16 * p.num + q.num)).q = q := D.num_inj (by omega)
    unfold Pl.get at h1
    rw [e1, e2] at h1
    exact h1
  · rw [if_neg hm]; exact .undef _
def guardR (r : Rd) (want : Bool) (cl : Cl) (ch : CH) (F : NT) (h : Hp) (c : AV → Hp → Bool) : Bool := (r.get F).gKT (selT want (cl.run ch F h c) (c (.tup []) h)) (selT want (c (.tup []) h) (cl.run ch F h c)) (c (.tup []) h)
def gOf (T : Nat → Option Ty) (Fs : FsT) (ops : List Oper) (o : Oper) : Cl := match o.guard with
  | none => clOf T Fs o
  | some (j, want) => match (ops[j]?).bind (·.dst) with
    | some d => ⟨guardR (rdOf (.tmp d)) want (clOf T Fs o)⟩
    | none => clNo
def GDid (P : Program) (ρ : Nat → Value) (ops : Array Oper) (g : G) (h : Hp) (w : World) (o : Oper) (a : Act) (c : AV → Hp → Bool) : Prop :=
  ∀ K : Value → World → Prop, (∀ av v g' h' w', Step ρ g h w g' h' w' → VR ρ g' av v → c av h' = true → K v w') → upV P K ((semO ops a o).run P w)
theorem semO_none {ops : Array Oper} {a : Act} {o : Oper} (hg : o.guard = none) : semO ops a o = execOp a.eval o := by
  unfold semO
  rw [if_pos (by unfold Region.wanted; rw [hg])]
theorem guard_val {ops : Array Oper} {a : Act} {j d : Nat} {b : Bool} (hd : (ops[j]?).bind (·.dst) = some d) (hv : a.eval (.tmp d) = .bool b) : yielded ops a.tmps j = some b := by
  have hv : a.tmps.getD d undef = .bool b := hv
  unfold yielded
  rw [hd]
  simp only [Option.bind_some]
  cases hx : a.tmps[d]? with
  | none =>
    rw [Array.getD_eq_getD_getElem?, hx] at hv
    exact absurd hv (by simp [undef])
  | some v =>
    rw [Array.getD_eq_getD_getElem?, hx] at hv
    simp only [Option.getD_some] at hv
    rw [hv]
theorem guard_tup {ops : Array Oper} {a : Act} {j d : Nat} {l : List AV} (hd : (ops[j]?).bind (·.dst) = some d) (hv : VR ρ g (.tup l) (a.eval (.tmp d))) : yielded ops a.tmps j = none := by
  have hv : VR ρ g (.tup l) (a.tmps.getD d undef) := hv
  unfold yielded
  rw [hd]
  simp only [Option.bind_some]
  cases hx : a.tmps[d]? with
  | none => rfl
  | some v =>
    rw [Array.getD_eq_getD_getElem?, hx] at hv
    simp only [Option.getD_some] at hv
    cases hv with
    | tup _ cs _ => rfl
theorem gOf_cases {T : Nat → Option Ty} {Fs : FsT} {ops : Array Oper} {o : Oper} {ch : CH} {F : NT} {c : AV → Hp → Bool} {a : Act} (e : (gOf T Fs ops.toList o).run ch F h c = true) (hl : Lk ρ N ops o g F a) :
    (semO ops a o = execOp a.eval o ∧ (clOf T Fs o).run ch F h c = true) ∨ (semO ops a o = pure .skip ∧ c (.tup []) h = true) := by
  unfold gOf at e
  cases hg : o.guard with
  | none =>
    rw [hg] at e
    exact .inl ⟨semO_none hg, e⟩
  | some jw =>
    obtain ⟨j, want⟩ := jw
    rw [hg] at e
    simp only [Array.getElem?_toList] at e
    cases hd : (ops[j]?).bind (·.dst) with
    | none => rw [hd] at e; exact Bool.noConfusion (show false = true from e)
    | some d =>
      rw [hd] at e
      have hm : Operand.tmp d ∈ looks ops o := by unfold looks; rw [hg]; simp only [hd]; exact List.mem_cons_self
      have hv := hl.2 _ hm
      have key : ∀ b : Bool, a.eval (.tmp d) = .bool b → sel want (if b then (clOf T Fs o).run ch F h c else c (.tup []) h) (if b then c (.tup []) h else (clOf T Fs o).run ch F h c) = true →
          (semO ops a o = execOp a.eval o ∧ (clOf T Fs o).run ch F h c = true) ∨ (semO ops a o = pure .skip ∧ c (.tup []) h = true) := fun b hb e => by
        have hy := guard_val (ops := ops) hd hb
        have hw : Region.wanted o (yielded ops a.tmps) = (b == want) := by
          unfold Region.wanted
          rw [hg]
          show (yielded ops a.tmps j == some want) = _
          rw [hy]; rfl
        unfold semO
        rw [hw]
        cases b <;> cases want
        · exact .inl ⟨rfl, e⟩
        · exact .inr ⟨rfl, e⟩
        · exact .inr ⟨rfl, e⟩
        · exact .inl ⟨rfl, e⟩
      rcases AV.gK_true (v := (rdOf (.tmp d)).get F) ((AV.gKT_eq _ _ _ _).symm.trans e) with ⟨e1, e⟩ | ⟨e1, e⟩ | ⟨l, e1, e⟩
      · rw [e1] at hv
        exact key true hv.inv_bool e
      · rw [e1] at hv
        exact key false hv.inv_bool (by cases want <;> exact e)
      · rw [e1] at hv
        refine .inr ⟨?_, e⟩
        have hy := guard_tup (ops := ops) hd hv
        unfold semO
        rw [if_neg]
        unfold Region.wanted
        rw [hg]
        show ¬ (yielded ops a.tmps j == some want) = true
        rw [hy]; simp
theorem gOf_ok (hρ : ∀ i, (ρ i).oneCell = true) {T : Nat → Option Ty} {Fs : FsT} (hT : TTok P T) (hFs : FTok P ρ Fs) {ops : Array Oper} {o : Oper} {ch : CH} {F : NT} {c : AV → Hp → Bool} {a : Act} (hch : CHok P ρ ch)
    (e : (gOf T Fs ops.toList o).run ch F h c = true) (hl : Lk ρ N ops o g F a) (hr : HR ρ g h w) : GDid P ρ ops g h w o a c := fun K hn => by
  rcases gOf_cases e hl with ⟨h1, e⟩ | ⟨h1, e⟩
  · rw [h1]
    have hat : At o (maskF (looks ops o) F) F := fun x hx => mask_at (looks_ops hx)
    exact clOf_ok hρ hT hFs o ch _ h c g a w hch (by rw [clOf_dep T Fs o ch _ F h c hat]; exact e) (mask_fr hl.1 hl.2) hr K hn
  · rw [h1]
    exact hn (.tup []) undef g h w (Step.refl hr) (.tup [] #[] .nil) e
theorem gOf_okL (hρ : ∀ i, (ρ i).oneCell = true) {T : Nat → Option Ty} {Fs : FsT} (hT : TTok P T) {ops : Array Oper} {o : Oper} {ch : CH} {F : NT} {c : AV → Hp → Bool} {a : Act} (ho : isLight o = true)
    (e : (gOf T Fs ops.toList o).run ch F h c = true) (hl : Lk ρ N ops o g F a) (hr : HR ρ g h w) : ∃ av v, ((semO ops a o).run P w = .ok (.value v) w ∨ ((semO ops a o).run P w = .ok .skip w ∧ v = undef)) ∧ VR ρ g av v ∧ c av h = true := by
  rcases gOf_cases e hl with ⟨h1, e⟩ | ⟨h1, e⟩
  · have hat : At o (maskF (looks ops o) F) F := fun x hx => mask_at (looks_ops hx)
    obtain ⟨av, v, r1, r2, r3⟩ := clOf_okL hρ hT o ho ch _ h c g a w (by rw [clOf_dep T Fs o ch _ F h c hat]; exact e) (mask_fr hl.1 hl.2) hr
    exact ⟨av, v, .inl (by rw [h1]; exact r1), r2, r3⟩
  · exact ⟨.tup [], undef, .inr ⟨by rw [h1]; rfl, rfl⟩, .tup [] #[] .nil, e⟩
theorem wpOp_of {r : Option Nat} {ops : Array Oper} {i : Nat} {o : Oper} {a : Act} {Q : Exit → Act → World → Prop} {K' : Value → World → Prop} {K : Act → World → Prop} (ho : ops[i]? = some o) (hk : upV P K' ((semO ops a o).run P w)) (hn : ∀ v w', K' v w' → K (a.put o.dst v) w') : wpOpIn (FK r) 0 P ops Q i K a w := by
  unfold wpOpIn
  rw [ho]
  simp only
  unfold semO at hk
  split
  · rename_i hw
    rw [if_pos hw] at hk
    exact upV_wp hk hn
  · rename_i hw
    rw [if_neg hw] at hk
    exact ⟨fun _ _ => trivial, hn _ _ hk⟩
theorem rgPutG_ok (hρ : ∀ i, (ρ i).oneCell = true) {T : Nat → Option Ty} {Fs : FsT} (hT : TTok P T) (hFs : FTok P ρ Fs) {ops : Array Oper} {i : Nat} {l : List Nat} {o : Oper} {rest : Rg} (ho : ops[i]? = some o) (hr : Rg.ok P ρ N ops l rest) : Rg.ok P ρ N ops (i :: l) (rgPutO (gOf T Fs ops.toList o) o.dst N rest) := by
  intro ch F h k g a w Q hch e hF hR hk r
  rw [wpOpsIn_cons]
  unfold rgPutO at e
  cases hd : o.dst with
  | none =>
    rw [hd] at e
    refine wpOp_of (K' := fun v w' => wpOpsIn (FK r) 0 P ops Q l (a.put o.dst v) w') ho ((gOf_ok hρ hT hFs hch e hF.lk hR) _ fun av v g' h' w' h1 h2 h3 => ?_) fun _ _ h => h
    rw [hd]
    exact hr ch F h' k g' a w' Q hch h3 (hF.mono h1.le) h1.hr (fun F2 g2 h2' a2 w2 s2 f2 d2 k2 => hk F2 g2 h2' a2 w2 (h1.trans s2) f2 d2 k2) r
  | some t =>
    rw [hd] at e
    simp only at e
    split at e
    · rename_i hb
      rw [Bool.and_eq_true] at hb
      have ht1 : t < N := Nat.le_of_ble_eq_true hb.1
      have ht2 : t < 256 := Nat.le_of_ble_eq_true hb.2
      refine wpOp_of (K' := fun v w' => wpOpsIn (FK r) 0 P ops Q l (a.put o.dst v) w') ho ((gOf_ok hρ hT hFs hch e hF.lk hR) _ fun av v g' h' w' h1 h2 h3 => ?_) fun _ _ h => h
      obtain ⟨F1, h3, e1, e2⟩ := tset_true h3
      rw [hd]
      exact hr ch F1 h' k g' (a.put (some t) v) w' Q hch h3 ((hF.mono h1.le).put h2 (plOf_num ht2) ht1 e1 e2) h1.hr (fun F2 g2 h2' a2 w2 s2 f2 d2 k2 => hk F2 g2 h2' a2 w2 (h1.trans s2) f2 d2 k2) r
    · exact Bool.noConfusion e
def rgSp (rest : Rg) (ch : CH) (h : Hp) (k : NT → Hp → Bool) (F : NT) : Bool := tall (rest.run ch F h k)
def rgSplit (pl : Pl) (x y : Rg) : Rg := ⟨fun ch F h k => (pl.get F).boolKT (pl.set (rgSp x ch h k) F (.bool true)) (pl.set (rgSp y ch h k) F (.bool false))⟩
theorem rgSplit_ok {ops : Array Oper} {l : List Nat} {d : Nat} (h1 : d < N) (h2 : d < 256) {x y : Rg} (hx : Rg.ok P ρ N ops l x) (hy : Rg.ok P ρ N ops l y) : Rg.ok P ρ N ops l (rgSplit (plOf d) x y) := fun ch F h k g a w Q hch e hF hR hk r => by
  have hg : ∀ (b : Bool) (z : Rg), Rg.ok P ρ N ops l z → (plOf d).get F = .bool b → (plOf d).set (rgSp z ch h k) F (.bool b) = true → wpOpsIn (FK r) 0 P ops Q l a w := fun b z hz hb e => by
    obtain ⟨F', e, e1, e2⟩ := tset_true (show tset (plOf d).p (plOf d).q (.bool b) (rgSp z ch h k) F = true from e)
    refine hz ch F' h k g a w Q hch e ⟨hF.1, fun p q => ?_⟩ hR hk r
    by_cases hpq : p = (plOf d).p ∧ q = (plOf d).q
    · obtain ⟨rfl, rfl⟩ := hpq
      rw [e1, ← hb]
      exact hF.2 _ _
    · rw [e2 p q (by
        by_cases hp : p = (plOf d).p
        · exact .inr fun hq => hpq ⟨hp, hq⟩
        · exact .inl hp)]
      exact hF.2 p q
  rcases AV.boolK_true ((AV.boolKT_eq _ _ _).symm.trans e) with ⟨hb, e⟩ | ⟨hb, e⟩
  · exact hg true x hx hb e
  · exact hg false y hy hb e
def findS (j : Nat) : List (Nat × Option Bool) → Option (Option Bool)
  | [] => none
  | x :: l => match Nat.beq x.1 j with | true => some x.2 | false => findS j l
def addS (i : Nat) (b want : Bool) (S : List (Nat × Option Bool)) : List (Nat × Option Bool) := match b == want with | true => S | false => (i, none) :: S
def rgAllS (T : Nat → Option Ty) (Fs : FsT) (N : Nat) (ops : List Oper) : List Oper → Nat → List (Nat × Option Bool) → Rg
  | [], _, _ => rgNil
  | o :: l, i, S => match o.guard with
    | none => rgPutO (gOf T Fs ops o) o.dst N (rgAllS T Fs N ops l (i + 1) S)
    | some (j, want) => match findS j S, (ops[j]?).bind (·.dst) with
      | some (some b), _ => rgPutO (gOf T Fs ops o) o.dst N (rgAllS T Fs N ops l (i + 1) (addS i b want S))
      | some none, _ => rgPutO (gOf T Fs ops o) o.dst N (rgAllS T Fs N ops l (i + 1) ((i, none) :: S))
      | none, none => rgPutO (gOf T Fs ops o) o.dst N (rgAllS T Fs N ops l (i + 1) S)
      | none, some d => match Nat.ble (d + 1) N && Nat.ble (d + 1) 256 with
        | false => rgPutO (gOf T Fs ops o) o.dst N (rgAllS T Fs N ops l (i + 1) S)
        | true => rgSplit (plOf d) (rgPutO (gOf T Fs ops o) o.dst N (rgAllS T Fs N ops l (i + 1) (addS i true want ((j, some true) :: S))))
            (rgPutO (gOf T Fs ops o) o.dst N (rgAllS T Fs N ops l (i + 1) (addS i false want ((j, some false) :: S))))
def rgAllG (T : Nat → Option Ty) (Fs : FsT) (N : Nat) (ops : List Oper) (l : List Oper) : Rg := rgAllS T Fs N ops l 0 []
theorem rgAllS_ok (hρ : ∀ i, (ρ i).oneCell = true) {T : Nat → Option Ty} {Fs : FsT} (hT : TTok P T) (hFs : FTok P ρ Fs) (ops : Array Oper) : ∀ (l : List Oper) (i n : Nat) (S : List (Nat × Option Bool)), (∀ j, l[j]? = ops[i + j]?) → Rg.ok P ρ N ops (List.range' i l.length) (rgAllS T Fs N ops.toList l n S)
  | [], i, n, S, h => rgNil_ok
  | o :: l, i, n, S, h => by
    have h0 : ops[i]? = some o := by have := h 0; rw [Nat.add_zero] at this; rw [← this]; rfl
    have ih := fun n S => rgAllS_ok hρ hT hFs ops l (i + 1) n S (fun j => by have := h (j + 1); rw [show i + (j + 1) = i + 1 + j from by omega] at this; exact this)
    rw [List.length_cons, List.range'_succ]
    have step := fun n S => rgPutG_ok hρ hT hFs h0 (ih n S)
    unfold rgAllS
    split
    · exact step _ _
    · split
      · exact step _ _
      · exact step _ _
      · exact step _ _
      · split
        · exact step _ _
        · rename_i hb
          rw [Bool.and_eq_true] at hb
          exact rgSplit_ok (Nat.le_of_ble_eq_true hb.1) (Nat.le_of_ble_eq_true hb.2) (step _ _) (step _ _)
theorem rgAllG_ok (hρ : ∀ i, (ρ i).oneCell = true) {T : Nat → Option Ty} {Fs : FsT} (hT : TTok P T) (hFs : FTok P ρ Fs) (ops : Array Oper) (l : List Oper) (i : Nat) (h : ∀ j, l[j]? = ops[i + j]?) : Rg.ok P ρ N ops (List.range' i l.length) (rgAllG T Fs N ops.toList l) := rgAllS_ok hρ hT hFs ops l i 0 [] h
end
end Ev
end Go.Proofs.YticoibkgeejkoaaGreatDoor
