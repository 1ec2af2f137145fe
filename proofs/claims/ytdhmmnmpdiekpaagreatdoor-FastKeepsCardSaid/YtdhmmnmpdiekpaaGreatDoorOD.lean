/- Functions, shallow, part 6. · The table of functions. · FastKeeps: the hooks; one case for each number that the first input leaves by 30. -/
import Derived.Test.YtdhmmnmpdiekpaaGreatDoorOC
import Derived.Test.YtdhmmnmpdiekpaaGreatDoorEF
set_option linter.unusedVariables false
set_option linter.unusedSimpArgs false
namespace Go.Proofs.YtdhmmnmpdiekpaaGreatDoor
namespace Ev
set_option linter.unusedVariables false
set_option maxRecDepth 100000
noncomputable section
open AV (aggK boolK cellsK fK fnK gK i64K ifaceK intK mapK numK oneK pK ptrK sliceK someK strK tupK)
variable {ρ : Nat → Value}
/-- (*keystone/fast.machine).leave -/
def t165 : List (Nat × Fc) := [(41, c41)]
def F165 : FsT := feOf Tryz.prog dM t165
theorem FT165 (q : QQ ρ) : FTok Tryz.prog ρ F165 := feOf_ok dM_ok ⟨ok41 q, trivial⟩
def j165_0 (ch : CH) (x0 : AV) (h : Hp) (kn : K0) : Bool := aNil x0 h fun a h => aField N284 a h fun a h => aStore1 a (.bool true) h fun _ h => kn h
def X165_0 : Cc := ⟨fun ch F h k => j165_0 ch (gt 0 F) h (fun h => k .normal (menv []) h)⟩
theorem T165_0 (q : QQ ρ) : KO ρ Tryz.f165 N31 X165_0 := tl q (FT165 q) (hk := []) trivial rfl [0] ⟨some [], [], none⟩ (by kernel_rfl)
def j165_1 (ch : CH) (x0 x1 x4 : AV) (h : Hp) (kn : K0) : Bool := aNil x0 h fun a h => aField N275 a h fun a h => aLoad1 a h fun a h => aLenL a h fun a h => aI2 fGtr a I0 h fun a h => boolK a false (aLenL x1 h fun a h => aI2 fGtr a I0 h fun a h => boolK a (sel (Bool.not (aField N2 x4 h noC)) (aField N2 x4 h fun a _ => sel (Bool.not (aLoadN N2 a h noC)) (aLoadN N2 a h fun b _ => sel (Bool.not (aIndexS N1 x1 I0 h noC)) (aIndexS N1 x1 I0 h fun c _ => sel (Bool.not (aLoad1 c h noC)) (aLoad1 c h fun d _ => sel (avEq x0 x0) (sel (aField N2 x4 h fun b _ => avEq b a) (sel (aLoadN N2 a h fun a _ => avEq a b) (sel (avEq x1 x1) (sel (aIndexS N1 x1 I0 h fun a _ => avEq a c) (sel (aLoad1 c h fun a _ => avEq a d) (s41 ch b h fun a h => sel (Bool.not (aNot a h noC)) (aNot a h fun b _ => sel (Bool.not (aBuild N2 [.bool false, I0] [((N0, N1), b), ((N1, N1), d)] h noC)) (aBuild N2 [.bool false, I0] [((N0, N1), b), ((N1, N1), d)] h fun e _ => sel (Bool.not (aNil x0 h noC)) (aNil x0 h fun f _ => sel (Bool.not (aField N278 f h noC)) (aField N278 f h fun g _ => sel (Bool.not (aField N1 g h noC)) (aField N1 g h fun i _ => sel (avEq x0 x0) (sel (avEq x1 x1) (sel (aIndexS N1 x1 I0 h fun a _ => avEq a c) (sel (aLoad1 c h fun a _ => avEq a d) (sel (aNot a h fun a _ => avEq a b) (sel (aBuild N2 [.bool false, I0] [((N0, N1), b), ((N1, N1), d)] h fun a _ => avEq a e) (sel (aNil x0 h fun a _ => avEq a f) (sel (aField N278 f h fun a _ => avEq a g) (sel (aField N1 g h fun a _ => avEq a i) (aStoreN N2 i e h fun _ h => j165_0 ch x0 h fun h => kn h) false) false) false) false) false) false) false) false) false) false) false) false) false) false) false) false) false) false) false) false) false) false) false) false) (j165_0 ch x0 h fun h => kn h))
def X165_1 : Cc := ⟨fun ch F h k => j165_1 ch (gt 0 F) (gt 1 F) (gt 4 F) h (fun h => k .normal (menv []) h)⟩
theorem T165_1 (q : QQ ρ) : KO ρ Tryz.f165 N7 X165_1 := tl q (FT165 q) (hk := [(N58, ccNo), (N31, X165_0)]) ⟨ccNo_ok, T165_0 q, trivial⟩ rfl [0, 1, 4] ⟨some [], [], none⟩ (by kernel_rfl)
def j165_2 (ch : CH) (x0 x1 x4 : AV) (h : Hp) (kn : K0) : Bool := sel (Bool.not (aNil x0 h noC)) (aNil x0 h fun a _ => sel (Bool.not (aField N275 a h noC)) (aField N275 a h fun b _ => sel (Bool.not (aLoad1 b h noC)) (aLoad1 b h fun c _ => sel (Bool.not (aNil x0 h noC)) (aNil x0 h fun d _ => sel (Bool.not (aField N275 d h noC)) (aField N275 d h fun e _ => sel (Bool.not (aLoad1 e h noC)) (aLoad1 e h fun f _ => sel (Bool.not (aLenL f h noC)) (aLenL f h fun g _ => sel (Bool.not (aI2 fSub g I1 h noC)) (aI2 fSub g I1 h fun i _ => sel (Bool.not (aSliceL N1 none (some i) none c h noC)) (aSliceL N1 none (some i) none c h fun j _ => sel (Bool.not (aNil x0 h noC)) (aNil x0 h fun l _ => sel (Bool.not (aField N275 l h noC)) (aField N275 l h fun m _ => sel (avEq x0 x0) (sel (avEq x0 x0) (sel (aNil x0 h fun b _ => avEq b a) (sel (aField N275 a h fun a _ => avEq a b) (sel (aLoad1 b h fun a _ => avEq a c) (sel (avEq x0 x0) (sel (aNil x0 h fun a _ => avEq a d) (sel (aField N275 d h fun a _ => avEq a e) (sel (aLoad1 e h fun a _ => avEq a f) (sel (aLenL f h fun a _ => avEq a g) (sel (aI2 fSub g I1 h fun a _ => avEq a i) (sel (aSliceL N1 none (some i) none c h fun a _ => avEq a j) (sel (aNil x0 h fun a _ => avEq a l) (sel (aField N275 l h fun a _ => avEq a m) (aStore1 m j h fun _ h => j165_1 ch x0 x1 x4 h fun h => kn h) false) false) false) false) false) false) false) false) false) false) false) false) false) false) false) false) false) false) false) false) false) false) false) false) false
def X165_2 : Cc := ⟨fun ch F h k => j165_2 ch (gt 0 F) (gt 1 F) (gt 4 F) h (fun h => k .normal (menv []) h)⟩
theorem T165_2 (q : QQ ρ) : KO ρ Tryz.f165 N3 X165_2 := tl q (FT165 q) (hk := [(N7, X165_1)]) ⟨T165_1 q, trivial⟩ rfl [0, 1, 4] ⟨some [], [], none⟩ (by kernel_rfl)
def s165 (ch : CH) (x0 x1 : AV) (h : Hp) (k : K0) : Bool := sel (Bool.not (aNil x0 h noC)) (aNil x0 h fun a _ => sel (Bool.not (aField N275 a h noC)) (aField N275 a h fun b _ => sel (Bool.not (aLoad1 b h noC)) (aLoad1 b h fun c _ => sel (Bool.not (aNil x0 h noC)) (aNil x0 h fun d _ => sel (Bool.not (aField N275 d h noC)) (aField N275 d h fun e _ => sel (Bool.not (aLoad1 e h noC)) (aLoad1 e h fun f _ => sel (Bool.not (aLenL f h noC)) (aLenL f h fun g _ => sel (Bool.not (aI2 fSub g I1 h noC)) (aI2 fSub g I1 h fun i _ => sel (Bool.not (aIndexS N1 c i h noC)) (aIndexS N1 c i h fun j _ => sel (Bool.not (aLoad1 j h noC)) (aLoad1 j h fun l _ => sel (Bool.not (aNil l h noC)) (aNil l h fun m _ => sel (Bool.not (aField N0 m h noC)) (aField N0 m h fun n _ => sel (Bool.not (aLoad1 n h noC)) (aLoad1 n h fun o _ => sel (Bool.not (aNil o h noC)) (aNil o h fun p _ => sel (Bool.not (aField N0 p h noC)) (aField N0 p h fun q _ => sel (Bool.not (aField N2 q h noC)) (aField N2 q h fun r _ => sel (Bool.not (aLoadN N4 r h noC)) (aLoadN N4 r h fun s _ => aLate (some (AO.cells N4 false N1 (CT.n [.nils, .bool false, I0, .str N0 N0] CT.e CT.e), Kd.p)) h fun t h => sel (avEq x0 x0) (sel (aNil x0 h fun b _ => avEq b a) (sel (aField N275 a h fun a _ => avEq a b) (sel (aLoad1 b h fun a _ => avEq a c) (sel (avEq x0 x0) (sel (aNil x0 h fun a _ => avEq a d) (sel (aField N275 d h fun a _ => avEq a e) (sel (aLoad1 e h fun a _ => avEq a f) (sel (aLenL f h fun a _ => avEq a g) (sel (aI2 fSub g I1 h fun a _ => avEq a i) (sel (aIndexS N1 c i h fun a _ => avEq a j) (sel (aLoad1 j h fun a _ => avEq a l) (sel (aNil l h fun a _ => avEq a m) (sel (aField N0 m h fun a _ => avEq a n) (sel (aLoad1 n h fun a _ => avEq a o) (sel (aNil o h fun a _ => avEq a p) (sel (aField N0 p h fun a _ => avEq a q) (sel (aField N2 q h fun a _ => avEq a r) (sel (aLoadN N4 r h fun a _ => avEq a s) (aStoreN N4 t s h fun _ h => j165_2 ch x0 x1 t h fun h => k h) false) false) false) false) false) false) false) false) false) false) false) false) false) false) false) false) false) false) false) false) false) false) false) false) false) false) false) false) false) false) false) false) false) false) false) false
abbrev c165 : Fc := fcA2 (fun ch x0 x1 h k => s165 ch x0 x1 h (fun h => k (.tup []) h))
theorem ok165 (q : QQ ρ) : Fc.ok Tryz.prog ρ 165 c165 := fk q (FT165 q) (hk := [(N3, X165_2)]) Tryz.func165 (by kernel_rfl) ⟨T165_2 q, trivial⟩ (us2 fun _ _ _ _ _ => by kernel_rfl)
/-- (*keystone/fast.machine).ends -/
def t91 : List (Nat × Fc) := [(159, c159), (165, c165)]
def F91 : FsT := feOf Tryz.prog dM t91
theorem FT91 (q : QQ ρ) : FTok Tryz.prog ρ F91 := feOf_ok dM_ok ⟨ok159 q, ok165 q, trivial⟩
def s91 (ch : CH) (x0 x1 x2 : AV) (h : Hp) (k : K0) : Bool := aNil x2 h fun a h => aField N0 a h fun a h => aField N1 a h fun a h => aLoad1 a h fun a h => aI2 fEql a I42 h fun b h => boolK b false (aI2 fEql a I43 h fun a h => boolK a (s159 ch x1 h fun a h => aRow N1 N1 [I0] [((N0, N1), a)] h fun a h => s165 ch x0 a h fun h => k h) false)
abbrev c91 : Fc := fcA3 (fun ch x0 x1 x2 h k => s91 ch x0 x1 x2 h (fun h => k (.tup []) h))
theorem ok91 (q : QQ ρ) : Fc.ok Tryz.prog ρ 91 c91 := fk q (FT91 q) (hk := [(N26, ccNo), (N111, ccNo)]) Tryz.func91 (by kernel_rfl) ⟨ccNo_ok, ccNo_ok, trivial⟩ (us3 fun _ _ _ _ _ _ => by kernel_rfl)
/-- (*keystone/hier.entry).method -/
def t201 : List (Nat × Fc) := [(200, c200)]
def F201 : FsT := feOf Tryz.prog dM t201
theorem FT201 (q : QQ ρ) : FTok Tryz.prog ρ F201 := feOf_ok dM_ok ⟨ok200 q, trivial⟩
def s201 (ch : CH) (x0 x1 x2 : AV) (h : Hp) (k : K1) : Bool := aBox x1 h fun a h => aBox x2 h fun b h => aNil x0 h fun c h => aField N0 c h fun c h => aField N5 c h fun c h => aLoad1 c h fun c h => aFunc (Fn.func N262) [] [a, b] h fun a h => s200 ch c a h fun a h => k a h
abbrev c201 : Fc := fcA3 s201
theorem ok201 (q : QQ ρ) : Fc.ok Tryz.prog ρ 201 c201 := fk q (FT201 q) (hk := []) Tryz.func201 (by kernel_rfl) trivial (us3 fun _ _ _ _ _ _ => by kernel_rfl)
/-- (*keystone/hier.World).nearest -/
def t137 : List (Nat × Fc) := [(201, c201)]
def F137 : FsT := feOf Tryz.prog dM t137
theorem FT137 (q : QQ ρ) : FTok Tryz.prog ρ F137 := feOf_ok dM_ok ⟨ok201 q, trivial⟩
def j137_0 (ch : CH) (x0 x2 x7 x11 x12 x13 x14 x15 : AV) (h : Hp) (kn : K6) (kr : K2) : Bool := aI2 fGeq x12 I0 h fun a h => boolK a (aNil x0 h fun a h => aField N0 a h fun a h => aField N1 a h fun a h => aLoad1 a h fun a h => aLook keyS .nilp false a x11 h fun a h => kr a x12 h) (kn x0 x2 x7 x13 x14 x15 h)
def X137_0 : Cc := ⟨fun ch F h k => j137_0 ch (gt 0 F) (gt 2 F) (gt 7 F) (gt 11 F) (gt 12 F) (gt 13 F) (gt 14 F) (gt 15 F) h (fun x0 x2 x7 x13 x14 x15 h => k .normal (menv [(0, x0), (2, x2), (7, x7), (13, x13), (14, x14), (15, x15)]) h) (fun x8 x9 h => k .ret (menv [(8, x8), (9, x9)]) h)⟩
theorem T137_0 (q : QQ ρ) : KO ρ Tryz.f137 N3379 X137_0 := tl q (FT137 q) (hk := []) trivial rfl [0, 2, 7, 11, 12, 13, 14, 15] ⟨some [0, 2, 7, 13, 14, 15], [], some [8, 9]⟩ (by kernel_rfl)
def i137_1 (ch : CH) (k0 : K0) (kr : K2) (ih : K6) (x0 x2 x7 x13 x14 x15 : AV) (h : Hp) : Bool := aI2 fLss x15 x14 h fun a h => boolK a (aIndexS N1 x13 x15 h fun a h => aLoad1 a h fun a h => sel (Bool.not (aNil x0 h noC)) (aNil x0 h fun b _ => sel (Bool.not (aField N0 b h noC)) (aField N0 b h fun c _ => sel (Bool.not (aField N1 c h noC)) (aField N1 c h fun d _ => sel (Bool.not (aLoad1 d h noC)) (aLoad1 d h fun e _ => sel (Bool.not (aLook keyS .nilp false e a h noC)) (aLook keyS .nilp false e a h fun f _ => sel (Bool.not (aLoadN N4 x7 h noC)) (aLoadN N4 x7 h fun g _ => sel (avEq x0 x0) (sel (aNil x0 h fun a _ => avEq a b) (sel (aField N0 b h fun a _ => avEq a c) (sel (aField N1 c h fun a _ => avEq a d) (sel (aLoad1 d h fun a _ => avEq a e) (sel (avEq a a) (sel (aLook keyS .nilp false e a h fun a _ => avEq a f) (sel (avEq x2 x2) (sel (aLoadN N4 x7 h fun a _ => avEq a g) (s201 ch f x2 g h fun b h => j137_0 ch x0 x2 x7 a b x13 x14 x15 h (fun a b c d e f h => aI2 fAdd f I1 h fun f h => ih a b c d e f h) fun a b h => kr a b h) false) false) false) false) false) false) false) false) false) false) false) false) false) false) false) (k0 h)
def j137_1 (n : Nat) (ch : CH) (x0 x2 x7 x13 x14 x15 : AV) (h : Hp) (k0 : K0) (kr : K2) : Bool := Nat.rec (motive := fun _ => K6) (fun _ _ _ _ _ _ _ => false) (fun _ ih => i137_1 ch k0 kr ih) n x0 x2 x7 x13 x14 x15 h
def X137_1 (n : Nat) : Cc := ⟨fun ch F h k => j137_1 n ch (gt 0 F) (gt 2 F) (gt 7 F) (gt 13 F) (gt 14 F) (gt 15 F) h (fun h => k (.exit 0) (menv []) h) (fun x8 x9 h => k .ret (menv [(8, x8), (9, x9)]) h)⟩
theorem T137_1 (q : QQ ρ) (n : Nat) : KO ρ Tryz.f137 N26 (X137_1 n) := lp q (FT137 q) (hk := [(N3379, X137_0)]) ⟨T137_0 q, trivial⟩ rfl [0, 2, 7, 13, 14, 15] ⟨none, [(0, [])], some [8, 9]⟩ (by kernel_rfl) (fun _ _ _ _ => rfl) (fun n => by kernel_rfl) n
def s137 (ch : CH) (x0 x1 x2 x3 : AV) (h : Hp) (k : K2) : Bool := aBox x3 h fun a h => aLenL x1 h fun b h => j137_1 N1000000 ch x0 x2 a x1 b I0 h (fun h => k .nilp J1 h) fun a b h => k a b h
abbrev c137 : Fc := fcA4 (fun ch x0 x1 x2 x3 h k => s137 ch x0 x1 x2 x3 h (fun r0 r1 h => k (.tup [r0, r1]) h))
theorem ok137 (q : QQ ρ) : Fc.ok Tryz.prog ρ 137 c137 := fk q (FT137 q) (hk := [(N26, X137_1 N1000000)]) Tryz.func137 (by kernel_rfl) ⟨T137_1 q _, trivial⟩ (us4 fun _ _ _ _ _ _ _ => by kernel_rfl)
/-- keystone/hier.overrides$1 -/
def t136 : List (Nat × Fc) := [(137, c137)]
def F136 : FsT := feOf Tryz.prog dM t136
theorem FT136 (q : QQ ρ) : FTok Tryz.prog ρ F136 := feOf_ok dM_ok ⟨ok137 q, trivial⟩
def s136 (ch : CH) (x0 x1 x2 : AV) (h : Hp) (k : K1) : Bool := aBox x0 h fun a h => aField N1 a h fun b h => aLoad1 b h fun b h => aEqS false b (.str N6 ((nat_lit 66423521637438))) h fun b h => boolK b false (aLoad1 x1 h fun b h => aLoad1 x2 h fun c h => aField N1 a h fun d h => aLoad1 d h fun d h => aField N2 a h fun e h => aLoadN N4 e h fun e h => s137 ch b c d e h fun b c h => aEqP true b .nilp h fun d h => boolK d (aField N0 a h fun a h => aLoad1 a h fun a h => aI2 fEql a I4 h fun a h => boolK a (aPick (.bool true) (.bool true) (.tup []) h fun a h => aPick (.bool true) a (.bool false) h fun a h => k a h) (aNil b h fun a h => aField N0 a h fun a h => aField N5 a h fun a h => aLoad1 a h fun a h => aIndexS N10 a c h fun a h => aField N0 a h fun a h => aLoad1 a h fun a h => aI2 fEql a I4 h fun a h => aPick (.bool false) (.bool true) a h fun a h => aPick (.bool true) a (.bool false) h fun a h => k a h)) (aPick (.bool false) (.tup []) (.bool false) h fun a h => k a h))
abbrev c136 : Fc := fcA3 s136
theorem ok136 (q : QQ ρ) : Fc.ok Tryz.prog ρ 136 c136 := fk q (FT136 q) (hk := [(N26, ccNo)]) Tryz.func136 (by kernel_rfl) ⟨ccNo_ok, trivial⟩ (us3 fun _ _ _ _ _ _ => by kernel_rfl)
/-- keystone/hier.owes$1 -/
def t138 : List (Nat × Fc) := [(137, c137)]
def F138 : FsT := feOf Tryz.prog dM t138
theorem FT138 (q : QQ ρ) : FTok Tryz.prog ρ F138 := feOf_ok dM_ok ⟨ok137 q, trivial⟩
def s138 (ch : CH) (x0 x1 x2 : AV) (h : Hp) (k : K1) : Bool := aBox x0 h fun a h => aLoad1 x1 h fun b h => aLoad1 x2 h fun c h => aField N1 a h fun d h => aLoad1 d h fun d h => aField N2 a h fun e h => aLoadN N4 e h fun e h => s137 ch b c d e h fun b c h => aField N0 a h fun a h => aLoad1 a h fun a h => aI2 fEql a I2 h fun a h => boolK a (aEqP false b .nilp h fun a h => boolK a (aPick (.bool true) (.bool true) (.tup []) h fun a h => aPick (.bool true) a (.bool false) h fun a h => k a h) (aNil b h fun a h => aField N0 a h fun a h => aField N5 a h fun a h => aLoad1 a h fun a h => aIndexS N10 a c h fun a h => aField N0 a h fun a h => aLoad1 a h fun a h => aI2 fNeq a I0 h fun a h => aPick (.bool false) (.bool true) a h fun a h => aPick (.bool true) a (.bool false) h fun a h => k a h)) (aPick (.bool false) (.tup []) (.bool false) h fun a h => k a h)
abbrev c138 : Fc := fcA3 s138
theorem ok138 (q : QQ ρ) : Fc.ok Tryz.prog ρ 138 c138 := fk q (FT138 q) (hk := []) Tryz.func138 (by kernel_rfl) trivial (us3 fun _ _ _ _ _ _ => by kernel_rfl)
/-- (*keystone/hier.World).walk$1 -/
def t139 : List (Nat × Fc) := []
def F139 : FsT := feOf Tryz.prog dM t139
theorem FT139 (q : QQ ρ) : FTok Tryz.prog ρ F139 := feOf_ok dM_ok trivial
def i139_0 (ch : CH) (k0 : K0) (ih : K2) (x11 x12 : AV) (h : Hp) : Bool := aI2 fLss x12 x11 h fun a h => boolK a false (k0 h)
def j139_0 (n : Nat) (ch : CH) (x11 x12 : AV) (h : Hp) (k0 : K0) : Bool := Nat.rec (motive := fun _ => K2) (fun _ _ _ => false) (fun _ ih => i139_0 ch k0 ih) n x11 x12 h
def X139_0 (n : Nat) : Cc := ⟨fun ch F h k => j139_0 n ch (gt 11 F) (gt 12 F) h (fun h => k (.exit 0) (menv []) h)⟩
theorem T139_0 (q : QQ ρ) (n : Nat) : KO ρ Tryz.f139 N6 (X139_0 n) := lp q (FT139 q) (hk := [(N51, ccNo)]) ⟨ccNo_ok, trivial⟩ rfl [11, 12] ⟨none, [(0, [])], none⟩ (by kernel_rfl) (fun _ _ _ _ => rfl) (fun n => by kernel_rfl) n
def s139 (ch : CH) (x0 x1 x2 x3 x4 : AV) (h : Hp) (k : K0) : Bool := aLenL x0 h fun a h => j139_0 N1000000 ch a I0 h fun h => k h
abbrev c139 : Fc := fcA5 (fun ch x0 x1 x2 x3 x4 h k => s139 ch x0 x1 x2 x3 x4 h (fun h => k (.tup []) h))
theorem ok139 (q : QQ ρ) : Fc.ok Tryz.prog ρ 139 c139 := fk q (FT139 q) (hk := [(N6, X139_0 N1000000)]) Tryz.func139 (by kernel_rfl) ⟨T139_0 q _, trivial⟩ (us5 fun _ _ _ _ _ _ _ _ => by kernel_rfl)
/-- keystone/gc.Reach$1 -/
def t180 : List (Nat × Fc) := [(18, c18)]
def F180 : FsT := feOf Tryz.prog dM t180
theorem FT180 (q : QQ ρ) : FTok Tryz.prog ρ F180 := feOf_ok dM_ok ⟨ok18 q, trivial⟩
def s180 (ch : CH) (x0 x1 x2 x3 : AV) (h : Hp) (k : K0) : Bool := aLoad1 x1 h fun a h => s18 ch a x0 h fun _ a h => aI2 fNeq a I0 h fun a h => boolK a (k h) (aLoad1 x2 h fun a h => aLook keyI I0 true a x0 h fun a h => aExtract N0 a h fun _ h => aExtract N1 a h fun a h => aNot a h fun a h => boolK a (aLoad1 x2 h fun a h => aLoad1 x3 h fun b h => aLenL b h fun b h => aUpd keyI a x0 b h fun _ h => aLoad1 x3 h fun a h => aRow N1 N1 [I0] [((N0, N1), x0)] h fun b h => aAppend N1 N8 a b h fun a h => aStore1 x3 a h fun _ h => k h) (k h))
abbrev c180 : Fc := fcA4 (fun ch x0 x1 x2 x3 h k => s180 ch x0 x1 x2 x3 h (fun h => k (.tup []) h))
theorem ok180 (q : QQ ρ) : Fc.ok Tryz.prog ρ 180 c180 := fk q (FT180 q) (hk := []) Tryz.func180 (by kernel_rfl) trivial (us4 fun _ _ _ _ _ _ _ => by kernel_rfl)
/-- slices.Backward[[]string,string]$1 -/
def t216 : List (Nat × Fc) := []
def F216 : FsT := feOf Tryz.prog dM t216
theorem FT216 (q : QQ ρ) : FTok Tryz.prog ρ F216 := feOf_ok dM_ok trivial
def i216_0 (ch : CH) (k0 : K0) (kr : K0) (ih : K3) (x0 x1 x3 : AV) (h : Hp) : Bool := aI2 fGeq x3 I0 h fun a h => boolK a (aLoad1 x1 h fun a h => aIndexS N1 a x3 h fun a h => aLoad1 a h fun a h => aCallV F216 x0 [x3, a] ch h fun a h => aNot a h fun a h => boolK a (kr h) (aI2 fSub x3 I1 h fun a h => ih x0 x1 a h)) (k0 h)
def j216_0 (n : Nat) (ch : CH) (x0 x1 x3 : AV) (h : Hp) (k0 : K0) (kr : K0) : Bool := Nat.rec (motive := fun _ => K3) (fun _ _ _ _ => false) (fun _ ih => i216_0 ch k0 kr ih) n x0 x1 x3 h
def X216_0 (n : Nat) : Cc := ⟨fun ch F h k => j216_0 n ch (gt 0 F) (gt 1 F) (gt 3 F) h (fun h => k (.exit 0) (menv []) h) (fun h => k .ret (menv []) h)⟩
theorem T216_0 (q : QQ ρ) (n : Nat) : KO ρ Tryz.f216 N6 (X216_0 n) := lp q (FT216 q) (hk := []) trivial rfl [0, 1, 3] ⟨none, [(0, [])], some []⟩ (by kernel_rfl) (fun _ _ _ _ => rfl) (fun n => by kernel_rfl) n
def s216 (ch : CH) (x0 x1 : AV) (h : Hp) (k : K0) : Bool := aLoad1 x1 h fun a h => aLenL a h fun a h => aI2 fSub a I1 h fun a h => j216_0 N1000000 ch x0 x1 a h (fun h => k h) fun h => k h
abbrev c216 : Fc := fcA2 (fun ch x0 x1 h k => s216 ch x0 x1 h (fun h => k (.tup []) h))
theorem ok216 (q : QQ ρ) : Fc.ok Tryz.prog ρ 216 c216 := fk q (FT216 q) (hk := [(N6, X216_0 N1000000)]) Tryz.func216 (by kernel_rfl) ⟨T216_0 q _, trivial⟩ (us2 fun _ _ _ _ _ => by kernel_rfl)
/-- (*keystone/hier.entry).method$1 -/
def t262 : List (Nat × Fc) := [(169, c169)]
def F262 : FsT := feOf Tryz.prog dM t262
theorem FT262 (q : QQ ρ) : FTok Tryz.prog ρ F262 := feOf_ok dM_ok ⟨ok169 q, trivial⟩
def s262 (ch : CH) (x0 x1 x2 : AV) (h : Hp) (k : K1) : Bool := aBox x0 h fun a h => aField N1 a h fun b h => aLoad1 b h fun b h => aLoad1 x1 h fun c h => aEqS false b c h fun b h => boolK b (aField N2 a h fun a h => aLoadN N4 a h fun a h => aLoadN N4 x2 h fun b h => s169 ch a b h fun a h => aPick (.bool true) a (.bool false) h fun a h => k a h) (aPick (.bool false) (.tup []) (.bool false) h fun a h => k a h)
abbrev c262 : Fc := fcA3 s262
theorem ok262 (q : QQ ρ) : Fc.ok Tryz.prog ρ 262 c262 := fk q (FT262 q) (hk := []) Tryz.func262 (by kernel_rfl) trivial (us3 fun _ _ _ _ _ _ => by kernel_rfl)
/-- keystone/lattice.Fits -/
def t392 : List (Nat × Fc) := [(41, c41)]
def F392 : FsT := feOf Tryz.prog dM t392
theorem FT392 (q : QQ ρ) : FTok Tryz.prog ρ F392 := feOf_ok dM_ok ⟨ok41 q, trivial⟩
def s392 (ch : CH) (x0 x1 x2 : AV) (h : Hp) (k : K1) : Bool := aBox x1 h fun a h => aBox x2 h fun b h => aLoadN N2 b h fun b h => s41 ch b h fun b h => boolK b (aField N0 a h fun a h => aLoad1 a h fun a h => aI2 fEql a I1 h fun a h => boolK a (k I0 h) false) false
abbrev c392 : Fc := fcA3 s392
theorem ok392 (q : QQ ρ) : Fc.ok Tryz.prog ρ 392 c392 := fk q (FT392 q) (hk := [(N51, ccNo), (N7, ccNo)]) Tryz.func392 (by kernel_rfl) ⟨ccNo_ok, ccNo_ok, trivial⟩ (us3 fun _ _ _ _ _ _ => by kernel_rfl)
/-- (*keystone/step.state).number -/
def t366 : List (Nat × Fc) := [(392, c392)]
def F366 : FsT := feOf Tryz.prog dM t366
theorem FT366 (q : QQ ρ) : FTok Tryz.prog ρ F366 := feOf_ok dM_ok ⟨ok392 q, trivial⟩
def s366 (ch : CH) (x0 x1 : AV) (h : Hp) (k : K1) : Bool := aBox x1 h fun a h => sel (Bool.not (aNil x0 h noC)) (aNil x0 h fun b _ => sel (Bool.not (aField N7 b h noC)) (aField N7 b h fun c _ => sel (Bool.not (aLoad1 c h noC)) (aLoad1 c h fun d _ => sel (Bool.not (aLoadN N4 a h noC)) (aLoadN N4 a h fun e _ => aBuild N2 [I0, .str N0 N0] [] h fun f _ => sel (avEq x0 x0) (sel (aNil x0 h fun a _ => avEq a b) (sel (aField N7 b h fun a _ => avEq a c) (sel (aLoad1 c h fun a _ => avEq a d) (sel (aLoadN N4 a h fun a _ => avEq a e) (sel (aBuild N2 [I0, .str N0 N0] [] h fun a _ => avEq a f) (s392 ch d e f h fun a h => k a h) false) false) false) false) false) false) false) false) false) false
abbrev c366 : Fc := fcA2 s366
theorem ok366 (q : QQ ρ) : Fc.ok Tryz.prog ρ 366 c366 := fk q (FT366 q) (hk := []) Tryz.func366 (by kernel_rfl) trivial (us2 fun _ _ _ _ _ => by kernel_rfl)
/-- (*keystone/step.state).fits$1 -/
def t394 : List (Nat × Fc) := [(392, c392)]
def F394 : FsT := feOf Tryz.prog dM t394
theorem FT394 (q : QQ ρ) : FTok Tryz.prog ρ F394 := feOf_ok dM_ok ⟨ok392 q, trivial⟩
def s394 (ch : CH) (x0 x1 x2 : AV) (h : Hp) (k : K1) : Bool := aBox x0 h fun a h => sel (Bool.not (aLoad1 x1 h noC)) (aLoad1 x1 h fun b _ => sel (Bool.not (aNil b h noC)) (aNil b h fun c _ => sel (Bool.not (aField N7 c h noC)) (aField N7 c h fun d _ => sel (Bool.not (aLoad1 d h noC)) (aLoad1 d h fun e _ => sel (Bool.not (aLoadN N4 a h noC)) (aLoadN N4 a h fun f _ => sel (Bool.not (aLoadN N2 x2 h noC)) (aLoadN N2 x2 h fun g _ => sel (aLoad1 x1 h fun a _ => avEq a b) (sel (aNil b h fun a _ => avEq a c) (sel (aField N7 c h fun a _ => avEq a d) (sel (aLoad1 d h fun a _ => avEq a e) (sel (aLoadN N4 a h fun a _ => avEq a f) (sel (aLoadN N2 x2 h fun a _ => avEq a g) (s392 ch e f g h fun a h => k a h) false) false) false) false) false) false) false) false) false) false) false) false
abbrev c394 : Fc := fcA3 s394
theorem ok394 (q : QQ ρ) : Fc.ok Tryz.prog ρ 394 c394 := fk q (FT394 q) (hk := []) Tryz.func394 (by kernel_rfl) trivial (us3 fun _ _ _ _ _ _ => by kernel_rfl)
/-- slices.Clone[[]int,int] -/
def t438 : List (Nat × Fc) := []
def F438 : FsT := feOf Tryz.prog dM t438
theorem FT438 (q : QQ ρ) : FTok Tryz.prog ρ F438 := feOf_ok dM_ok trivial
def s438 (ch : CH) (x0 : AV) (h : Hp) (k : K1) : Bool := aEqL false x0 .nils h fun a h => boolK a (k .nils h) false
abbrev c438 : Fc := fcA1 s438
theorem ok438 (q : QQ ρ) : Fc.ok Tryz.prog ρ 438 c438 := fk q (FT438 q) (hk := [(N7, ccNo)]) Tryz.func438 (by kernel_rfl) ⟨ccNo_ok, trivial⟩ (us1 fun _ _ _ _ => by kernel_rfl)
/-- (keystone/gc.Table).Refs -/
def t437 : List (Nat × Fc) := [(438, c438)]
def F437 : FsT := feOf Tryz.prog dM t437
theorem FT437 (q : QQ ρ) : FTok Tryz.prog ρ F437 := feOf_ok dM_ok ⟨ok438 q, trivial⟩
def j437_0 (ch : CH) (x0 x1 x9 : AV) (h : Hp) (kr : K1) : Bool := boolK x9 (aIndexS N1 x0 x1 h fun a h => aLoad1 a h fun a h => s438 ch a h fun a h => kr a h) false
def X437_0 : Cc := ⟨fun ch F h k => j437_0 ch (gt 0 F) (gt 1 F) (gt 9 F) h (fun x6 h => k .ret (menv [(6, x6)]) h)⟩
theorem T437_0 (q : QQ ρ) : KO ρ Tryz.f437 N25 X437_0 := tl q (FT437 q) (hk := [(N51, ccNo)]) ⟨ccNo_ok, trivial⟩ rfl [0, 1, 9] ⟨none, [], some [6]⟩ (by kernel_rfl)
def s437 (ch : CH) (x0 x1 x2 : AV) (h : Hp) (k : K1) : Bool := aI2 fGeq x1 I0 h fun a h => boolK a (aLenL x0 h fun a h => aI2 fLss x1 a h fun a h => aPick (.bool true) a (.bool false) h fun a h => j437_0 ch x0 x1 a h fun a h => k a h) (aPick (.bool false) (.tup []) (.bool false) h fun a h => j437_0 ch x0 x1 a h fun a h => k a h)
abbrev c437 : Fc := fcA3 s437
theorem ok437 (q : QQ ρ) : Fc.ok Tryz.prog ρ 437 c437 := fk q (FT437 q) (hk := [(N25, X437_0)]) Tryz.func437 (by kernel_rfl) ⟨T437_0 q, trivial⟩ (us3 fun _ _ _ _ _ _ => by kernel_rfl)
/-- (*keystone/heap.slots).size -/
def t440 : List (Nat × Fc) := []
def F440 : FsT := feOf Tryz.prog dM t440
theorem FT440 (q : QQ ρ) : FTok Tryz.prog ρ F440 := feOf_ok dM_ok trivial
def s440 (ch : CH) (x0 : AV) (h : Hp) (k : K1) : Bool := aNil x0 h fun a h => aField N0 a h fun a h => aLoad1 a h fun a h => aLenL a h fun a h => aI2 fMul I8 a h fun a h => aI2 fAdd I16 a h fun a h => k a h
abbrev c440 : Fc := fcA1 s440
theorem ok440 (q : QQ ρ) : Fc.ok Tryz.prog ρ 440 c440 := fk q (FT440 q) (hk := []) Tryz.func440 (by kernel_rfl) trivial (us1 fun _ _ _ _ => by kernel_rfl)
end
end Ev
end Go.Proofs.YtdhmmnmpdiekpaaGreatDoor
namespace Go.Proofs.YtdhmmnmpdiekpaaGreatDoor
namespace Ev
set_option linter.unusedVariables false
noncomputable section
variable {ρ : Nat → Value}
def tabT : FcT := (.node (nat_lit 139) (.node (nat_lit 60) (.node (nat_lit 31) (.node (nat_lit 16) (.node (nat_lit 9) (.node (nat_lit 6) (.node (nat_lit 4) (.leaf (nat_lit 4) c4) (.node (nat_lit 5) (.leaf (nat_lit 5) c5) (.leaf (nat_lit 6) c6))) (.node (nat_lit 7) (.leaf (nat_lit 7) c7) (.node (nat_lit 8) (.leaf (nat_lit 8) c8) (.leaf (nat_lit 9) c9)))) (.node (nat_lit 12) (.node (nat_lit 10) (.leaf (nat_lit 10) c10) (.node (nat_lit 11) (.leaf (nat_lit 11) c11) (.leaf (nat_lit 12) c12))) (.node (nat_lit 14) (.node (nat_lit 13) (.leaf (nat_lit 13) c13) (.leaf (nat_lit 14) c14)) (.node (nat_lit 15) (.leaf (nat_lit 15) c15) (.leaf (nat_lit 16) c16))))) (.node (nat_lit 24) (.node (nat_lit 19) (.node (nat_lit 17) (.leaf (nat_lit 17) c17) (.node (nat_lit 18) (.leaf (nat_lit 18) c18) (.leaf (nat_lit 19) c19))) (.node (nat_lit 21) (.node (nat_lit 20) (.leaf (nat_lit 20) c20) (.leaf (nat_lit 21) c21)) (.node (nat_lit 22) (.leaf (nat_lit 22) c22) (.leaf (nat_lit 24) c24)))) (.node (nat_lit 27) (.node (nat_lit 25) (.leaf (nat_lit 25) c25) (.node (nat_lit 26) (.leaf (nat_lit 26) c26) (.leaf (nat_lit 27) c27))) (.node (nat_lit 29) (.node (nat_lit 28) (.leaf (nat_lit 28) c28) (.leaf (nat_lit 29) c29)) (.node (nat_lit 30) (.leaf (nat_lit 30) c30) (.leaf (nat_lit 31) c31)))))) (.node (nat_lit 45) (.node (nat_lit 37) (.node (nat_lit 34) (.node (nat_lit 32) (.leaf (nat_lit 32) c32) (.node (nat_lit 33) (.leaf (nat_lit 33) c33) (.leaf (nat_lit 34) c34))) (.node (nat_lit 35) (.leaf (nat_lit 35) c35) (.node (nat_lit 36) (.leaf (nat_lit 36) c36) (.leaf (nat_lit 37) c37)))) (.node (nat_lit 40) (.node (nat_lit 38) (.leaf (nat_lit 38) c38) (.node (nat_lit 39) (.leaf (nat_lit 39) c39) (.leaf (nat_lit 40) c40))) (.node (nat_lit 42) (.node (nat_lit 41) (.leaf (nat_lit 41) c41) (.leaf (nat_lit 42) c42)) (.node (nat_lit 43) (.leaf (nat_lit 43) c43) (.leaf (nat_lit 45) c45))))) (.node (nat_lit 52) (.node (nat_lit 48) (.node (nat_lit 46) (.leaf (nat_lit 46) c46) (.node (nat_lit 47) (.leaf (nat_lit 47) c47) (.leaf (nat_lit 48) c48))) (.node (nat_lit 50) (.node (nat_lit 49) (.leaf (nat_lit 49) c49) (.leaf (nat_lit 50) c50)) (.node (nat_lit 51) (.leaf (nat_lit 51) c51) (.leaf (nat_lit 52) c52)))) (.node (nat_lit 55) (.node (nat_lit 53) (.leaf (nat_lit 53) c53) (.node (nat_lit 54) (.leaf (nat_lit 54) c54) (.leaf (nat_lit 55) c55))) (.node (nat_lit 58) (.node (nat_lit 57) (.leaf (nat_lit 57) c57) (.leaf (nat_lit 58) c58)) (.node (nat_lit 59) (.leaf (nat_lit 59) c59) (.leaf (nat_lit 60) c60))))))) (.node (nat_lit 95) (.node (nat_lit 74) (.node (nat_lit 67) (.node (nat_lit 64) (.node (nat_lit 61) (.leaf (nat_lit 61) c61) (.node (nat_lit 63) (.leaf (nat_lit 63) c63) (.leaf (nat_lit 64) c64))) (.node (nat_lit 65) (.leaf (nat_lit 65) c65) (.node (nat_lit 66) (.leaf (nat_lit 66) c66) (.leaf (nat_lit 67) c67)))) (.node (nat_lit 70) (.node (nat_lit 68) (.leaf (nat_lit 68) c68) (.node (nat_lit 69) (.leaf (nat_lit 69) c69) (.leaf (nat_lit 70) c70))) (.node (nat_lit 72) (.node (nat_lit 71) (.leaf (nat_lit 71) c71) (.leaf (nat_lit 72) c72)) (.node (nat_lit 73) (.leaf (nat_lit 73) c73) (.leaf (nat_lit 74) c74))))) (.node (nat_lit 81) (.node (nat_lit 77) (.node (nat_lit 75) (.leaf (nat_lit 75) c75) (.node (nat_lit 76) (.leaf (nat_lit 76) c76) (.leaf (nat_lit 77) c77))) (.node (nat_lit 79) (.node (nat_lit 78) (.leaf (nat_lit 78) c78) (.leaf (nat_lit 79) c79)) (.node (nat_lit 80) (.leaf (nat_lit 80) c80) (.leaf (nat_lit 81) c81)))) (.node (nat_lit 85) (.node (nat_lit 82) (.leaf (nat_lit 82) c82) (.node (nat_lit 84) (.leaf (nat_lit 84) c84) (.leaf (nat_lit 85) c85))) (.node (nat_lit 93) (.node (nat_lit 91) (.leaf (nat_lit 91) c91) (.leaf (nat_lit 93) c93)) (.node (nat_lit 94) (.leaf (nat_lit 94) c94) (.leaf (nat_lit 95) c95)))))) (.node (nat_lit 118) (.node (nat_lit 109) (.node (nat_lit 106) (.node (nat_lit 98) (.leaf (nat_lit 98) c98) (.node (nat_lit 104) (.leaf (nat_lit 104) c104) (.leaf (nat_lit 106) c106))) (.node (nat_lit 107) (.leaf (nat_lit 107) c107) (.node (nat_lit 108) (.leaf (nat_lit 108) c108) (.leaf (nat_lit 109) c109)))) (.node (nat_lit 113) (.node (nat_lit 110) (.leaf (nat_lit 110) c110) (.node (nat_lit 111) (.leaf (nat_lit 111) c111) (.leaf (nat_lit 113) c113))) (.node (nat_lit 116) (.node (nat_lit 115) (.leaf (nat_lit 115) c115) (.leaf (nat_lit 116) c116)) (.node (nat_lit 117) (.leaf (nat_lit 117) c117) (.leaf (nat_lit 118) c118))))) (.node (nat_lit 126) (.node (nat_lit 121) (.node (nat_lit 119) (.leaf (nat_lit 119) c119) (.node (nat_lit 120) (.leaf (nat_lit 120) c120) (.leaf (nat_lit 121) c121))) (.node (nat_lit 123) (.node (nat_lit 122) (.leaf (nat_lit 122) c122) (.leaf (nat_lit 123) c123)) (.node (nat_lit 124) (.leaf (nat_lit 124) c124) (.leaf (nat_lit 126) c126)))) (.node (nat_lit 135) (.node (nat_lit 128) (.leaf (nat_lit 128) c128) (.node (nat_lit 133) (.leaf (nat_lit 133) c133) (.leaf (nat_lit 135) c135))) (.node (nat_lit 137) (.node (nat_lit 136) (.leaf (nat_lit 136) c136) (.leaf (nat_lit 137) c137)) (.node (nat_lit 138) (.leaf (nat_lit 138) c138) (.leaf (nat_lit 139) c139)))))))) (.node (nat_lit 228) (.node (nat_lit 181) (.node (nat_lit 152) (.node (nat_lit 145) (.node (nat_lit 142) (.node (nat_lit 140) (.leaf (nat_lit 140) c140) (.node (nat_lit 141) (.leaf (nat_lit 141) c141) (.leaf (nat_lit 142) c142))) (.node (nat_lit 143) (.leaf (nat_lit 143) c143) (.node (nat_lit 144) (.leaf (nat_lit 144) c144) (.leaf (nat_lit 145) c145)))) (.node (nat_lit 148) (.node (nat_lit 146) (.leaf (nat_lit 146) c146) (.node (nat_lit 147) (.leaf (nat_lit 147) c147) (.leaf (nat_lit 148) c148))) (.node (nat_lit 150) (.node (nat_lit 149) (.leaf (nat_lit 149) c149) (.leaf (nat_lit 150) c150)) (.node (nat_lit 151) (.leaf (nat_lit 151) c151) (.leaf (nat_lit 152) c152))))) (.node (nat_lit 161) (.node (nat_lit 155) (.node (nat_lit 153) (.leaf (nat_lit 153) c153) (.node (nat_lit 154) (.leaf (nat_lit 154) c154) (.leaf (nat_lit 155) c155))) (.node (nat_lit 158) (.node (nat_lit 156) (.leaf (nat_lit 156) c156) (.leaf (nat_lit 158) c158)) (.node (nat_lit 159) (.leaf (nat_lit 159) c159) (.leaf (nat_lit 161) c161)))) (.node (nat_lit 168) (.node (nat_lit 165) (.leaf (nat_lit 165) c165) (.node (nat_lit 167) (.leaf (nat_lit 167) c167) (.leaf (nat_lit 168) c168))) (.node (nat_lit 173) (.node (nat_lit 169) (.leaf (nat_lit 169) c169) (.leaf (nat_lit 173) c173)) (.node (nat_lit 180) (.leaf (nat_lit 180) c180) (.leaf (nat_lit 181) c181)))))) (.node (nat_lit 203) (.node (nat_lit 192) (.node (nat_lit 184) (.node (nat_lit 182) (.leaf (nat_lit 182) c182) (.node (nat_lit 183) (.leaf (nat_lit 183) c183) (.leaf (nat_lit 184) c184))) (.node (nat_lit 185) (.leaf (nat_lit 185) c185) (.node (nat_lit 191) (.leaf (nat_lit 191) c191) (.leaf (nat_lit 192) c192)))) (.node (nat_lit 197) (.node (nat_lit 195) (.leaf (nat_lit 195) c195) (.node (nat_lit 196) (.leaf (nat_lit 196) c196) (.leaf (nat_lit 197) c197))) (.node (nat_lit 201) (.node (nat_lit 200) (.leaf (nat_lit 200) c200) (.leaf (nat_lit 201) c201)) (.node (nat_lit 202) (.leaf (nat_lit 202) c202) (.leaf (nat_lit 203) c203))))) (.node (nat_lit 213) (.node (nat_lit 206) (.node (nat_lit 204) (.leaf (nat_lit 204) c204) (.node (nat_lit 205) (.leaf (nat_lit 205) c205) (.leaf (nat_lit 206) c206))) (.node (nat_lit 211) (.node (nat_lit 207) (.leaf (nat_lit 207) c207) (.leaf (nat_lit 211) c211)) (.node (nat_lit 212) (.leaf (nat_lit 212) c212) (.leaf (nat_lit 213) c213)))) (.node (nat_lit 217) (.node (nat_lit 214) (.leaf (nat_lit 214) c214) (.node (nat_lit 216) (.leaf (nat_lit 216) c216) (.leaf (nat_lit 217) c217))) (.node (nat_lit 219) (.node (nat_lit 218) (.leaf (nat_lit 218) c218) (.leaf (nat_lit 219) c219)) (.node (nat_lit 224) (.leaf (nat_lit 224) c224) (.leaf (nat_lit 228) c228))))))) (.node (nat_lit 283) (.node (nat_lit 256) (.node (nat_lit 245) (.node (nat_lit 240) (.node (nat_lit 238) (.leaf (nat_lit 238) c238) (.node (nat_lit 239) (.leaf (nat_lit 239) c239) (.leaf (nat_lit 240) c240))) (.node (nat_lit 241) (.leaf (nat_lit 241) c241) (.node (nat_lit 244) (.leaf (nat_lit 244) c244) (.leaf (nat_lit 245) c245)))) (.node (nat_lit 252) (.node (nat_lit 246) (.leaf (nat_lit 246) c246) (.node (nat_lit 247) (.leaf (nat_lit 247) c247) (.leaf (nat_lit 252) c252))) (.node (nat_lit 254) (.node (nat_lit 253) (.leaf (nat_lit 253) c253) (.leaf (nat_lit 254) c254)) (.node (nat_lit 255) (.leaf (nat_lit 255) c255) (.leaf (nat_lit 256) c256))))) (.node (nat_lit 270) (.node (nat_lit 262) (.node (nat_lit 258) (.leaf (nat_lit 258) c258) (.node (nat_lit 259) (.leaf (nat_lit 259) c259) (.leaf (nat_lit 262) c262))) (.node (nat_lit 268) (.node (nat_lit 263) (.leaf (nat_lit 263) c263) (.leaf (nat_lit 268) c268)) (.node (nat_lit 269) (.leaf (nat_lit 269) c269) (.leaf (nat_lit 270) c270)))) (.node (nat_lit 278) (.node (nat_lit 276) (.leaf (nat_lit 276) c276) (.node (nat_lit 277) (.leaf (nat_lit 277) c277) (.leaf (nat_lit 278) c278))) (.node (nat_lit 280) (.node (nat_lit 279) (.leaf (nat_lit 279) c279) (.leaf (nat_lit 280) c280)) (.node (nat_lit 281) (.leaf (nat_lit 281) c281) (.leaf (nat_lit 283) c283)))))) (.node (nat_lit 320) (.node (nat_lit 302) (.node (nat_lit 299) (.node (nat_lit 291) (.leaf (nat_lit 291) c291) (.node (nat_lit 298) (.leaf (nat_lit 298) c298) (.leaf (nat_lit 299) c299))) (.node (nat_lit 300) (.leaf (nat_lit 300) c300) (.node (nat_lit 301) (.leaf (nat_lit 301) c301) (.leaf (nat_lit 302) c302)))) (.node (nat_lit 311) (.node (nat_lit 304) (.leaf (nat_lit 304) c304) (.node (nat_lit 310) (.leaf (nat_lit 310) c310) (.leaf (nat_lit 311) c311))) (.node (nat_lit 316) (.node (nat_lit 312) (.leaf (nat_lit 312) c312) (.leaf (nat_lit 316) c316)) (.node (nat_lit 319) (.leaf (nat_lit 319) c319) (.leaf (nat_lit 320) c320))))) (.node (nat_lit 366) (.node (nat_lit 334) (.node (nat_lit 323) (.leaf (nat_lit 323) c323) (.node (nat_lit 330) (.leaf (nat_lit 330) c330) (.leaf (nat_lit 334) c334))) (.node (nat_lit 352) (.node (nat_lit 350) (.leaf (nat_lit 350) c350) (.leaf (nat_lit 352) c352)) (.node (nat_lit 364) (.leaf (nat_lit 364) c364) (.leaf (nat_lit 366) c366)))) (.node (nat_lit 392) (.node (nat_lit 370) (.leaf (nat_lit 370) c370) (.node (nat_lit 386) (.leaf (nat_lit 386) c386) (.leaf (nat_lit 392) c392))) (.node (nat_lit 437) (.node (nat_lit 394) (.leaf (nat_lit 394) c394) (.leaf (nat_lit 437) c437)) (.node (nat_lit 438) (.leaf (nat_lit 438) c438) (.leaf (nat_lit 440) c440)))))))))
theorem tabT_ok (q : QQ ρ) : tabT.Ok Tryz.prog ρ := ⟨⟨⟨⟨⟨⟨⟨ok4 q, ⟨ok5 q, ok6 q⟩⟩, ⟨ok7 q, ⟨ok8 q, ok9 q⟩⟩⟩, ⟨⟨ok10 q, ⟨ok11 q, ok12 q⟩⟩, ⟨⟨ok13 q, ok14 q⟩, ⟨ok15 q, ok16 q⟩⟩⟩⟩, ⟨⟨⟨ok17 q, ⟨ok18 q, ok19 q⟩⟩, ⟨⟨ok20 q, ok21 q⟩, ⟨ok22 q, ok24 q⟩⟩⟩, ⟨⟨ok25 q, ⟨ok26 q, ok27 q⟩⟩, ⟨⟨ok28 q, ok29 q⟩, ⟨ok30 q, ok31 q⟩⟩⟩⟩⟩, ⟨⟨⟨⟨ok32 q, ⟨ok33 q, ok34 q⟩⟩, ⟨ok35 q, ⟨ok36 q, ok37 q⟩⟩⟩, ⟨⟨ok38 q, ⟨ok39 q, ok40 q⟩⟩, ⟨⟨ok41 q, ok42 q⟩, ⟨ok43 q, ok45 q⟩⟩⟩⟩, ⟨⟨⟨ok46 q, ⟨ok47 q, ok48 q⟩⟩, ⟨⟨ok49 q, ok50 q⟩, ⟨ok51 q, ok52 q⟩⟩⟩, ⟨⟨ok53 q, ⟨ok54 q, ok55 q⟩⟩, ⟨⟨ok57 q, ok58 q⟩, ⟨ok59 q, ok60 q⟩⟩⟩⟩⟩⟩, ⟨⟨⟨⟨⟨ok61 q, ⟨ok63 q, ok64 q⟩⟩, ⟨ok65 q, ⟨ok66 q, ok67 q⟩⟩⟩, ⟨⟨ok68 q, ⟨ok69 q, ok70 q⟩⟩, ⟨⟨ok71 q, ok72 q⟩, ⟨ok73 q, ok74 q⟩⟩⟩⟩, ⟨⟨⟨ok75 q, ⟨ok76 q, ok77 q⟩⟩, ⟨⟨ok78 q, ok79 q⟩, ⟨ok80 q, ok81 q⟩⟩⟩, ⟨⟨ok82 q, ⟨ok84 q, ok85 q⟩⟩, ⟨⟨ok91 q, ok93 q⟩, ⟨ok94 q, ok95 q⟩⟩⟩⟩⟩, ⟨⟨⟨⟨ok98 q, ⟨ok104 q, ok106 q⟩⟩, ⟨ok107 q, ⟨ok108 q, ok109 q⟩⟩⟩, ⟨⟨ok110 q, ⟨ok111 q, ok113 q⟩⟩, ⟨⟨ok115 q, ok116 q⟩, ⟨ok117 q, ok118 q⟩⟩⟩⟩, ⟨⟨⟨ok119 q, ⟨ok120 q, ok121 q⟩⟩, ⟨⟨ok122 q, ok123 q⟩, ⟨ok124 q, ok126 q⟩⟩⟩, ⟨⟨ok128 q, ⟨ok133 q, ok135 q⟩⟩, ⟨⟨ok136 q, ok137 q⟩, ⟨ok138 q, ok139 q⟩⟩⟩⟩⟩⟩⟩, ⟨⟨⟨⟨⟨⟨ok140 q, ⟨ok141 q, ok142 q⟩⟩, ⟨ok143 q, ⟨ok144 q, ok145 q⟩⟩⟩, ⟨⟨ok146 q, ⟨ok147 q, ok148 q⟩⟩, ⟨⟨ok149 q, ok150 q⟩, ⟨ok151 q, ok152 q⟩⟩⟩⟩, ⟨⟨⟨ok153 q, ⟨ok154 q, ok155 q⟩⟩, ⟨⟨ok156 q, ok158 q⟩, ⟨ok159 q, ok161 q⟩⟩⟩, ⟨⟨ok165 q, ⟨ok167 q, ok168 q⟩⟩, ⟨⟨ok169 q, ok173 q⟩, ⟨ok180 q, ok181 q⟩⟩⟩⟩⟩, ⟨⟨⟨⟨ok182 q, ⟨ok183 q, ok184 q⟩⟩, ⟨ok185 q, ⟨ok191 q, ok192 q⟩⟩⟩, ⟨⟨ok195 q, ⟨ok196 q, ok197 q⟩⟩, ⟨⟨ok200 q, ok201 q⟩, ⟨ok202 q, ok203 q⟩⟩⟩⟩, ⟨⟨⟨ok204 q, ⟨ok205 q, ok206 q⟩⟩, ⟨⟨ok207 q, ok211 q⟩, ⟨ok212 q, ok213 q⟩⟩⟩, ⟨⟨ok214 q, ⟨ok216 q, ok217 q⟩⟩, ⟨⟨ok218 q, ok219 q⟩, ⟨ok224 q, ok228 q⟩⟩⟩⟩⟩⟩, ⟨⟨⟨⟨⟨ok238 q, ⟨ok239 q, ok240 q⟩⟩, ⟨ok241 q, ⟨ok244 q, ok245 q⟩⟩⟩, ⟨⟨ok246 q, ⟨ok247 q, ok252 q⟩⟩, ⟨⟨ok253 q, ok254 q⟩, ⟨ok255 q, ok256 q⟩⟩⟩⟩, ⟨⟨⟨ok258 q, ⟨ok259 q, ok262 q⟩⟩, ⟨⟨ok263 q, ok268 q⟩, ⟨ok269 q, ok270 q⟩⟩⟩, ⟨⟨ok276 q, ⟨ok277 q, ok278 q⟩⟩, ⟨⟨ok279 q, ok280 q⟩, ⟨ok281 q, ok283 q⟩⟩⟩⟩⟩, ⟨⟨⟨⟨ok291 q, ⟨ok298 q, ok299 q⟩⟩, ⟨ok300 q, ⟨ok301 q, ok302 q⟩⟩⟩, ⟨⟨ok304 q, ⟨ok310 q, ok311 q⟩⟩, ⟨⟨ok312 q, ok316 q⟩, ⟨ok319 q, ok320 q⟩⟩⟩⟩, ⟨⟨⟨ok323 q, ⟨ok330 q, ok334 q⟩⟩, ⟨⟨ok350 q, ok352 q⟩, ⟨ok364 q, ok366 q⟩⟩⟩, ⟨⟨ok370 q, ⟨ok386 q, ok392 q⟩⟩, ⟨⟨ok394 q, ok437 q⟩, ⟨ok438 q, ok440 q⟩⟩⟩⟩⟩⟩⟩⟩
def tabK (f : Nat) : Fc := tabT.get f
def chK (n : Nat) : CH := chT tabK n
end
end Ev
end Go.Proofs.YtdhmmnmpdiekpaaGreatDoor
namespace Go.Proofs.YtdhmmnmpdiekpaaGreatDoor
namespace Ev
set_option linter.unusedVariables false
noncomputable section
/-- The three inputs. -/
def rhoF (a b c : Int) (i : Nat) : Value := match i with
  | 0 => .int .i64 a
  | 1 => .int .i64 b
  | _ => .int .i64 c
theorem rhoF_one (a b c : Int) : ∀ i, (rhoF a b c i).oneCell = true := fun i => by unfold rhoF; split <;> rfl
/-- What 'within' answers: for the first input v, for the second each number there can be. -/
def rV (v : Nat) (la : List AV) (k : AV → Bool) : Bool := match la with
  | [.sym i, .i64 n] => sel (Nat.beq i 0) (both (Nat.beq n (nat_lit 9223372036854775838)) (k (.i64 (Nat.add (nat_lit 9223372036854775808) v))))
      (both (Nat.beq i 1) (both (Nat.ble (nat_lit 9223372036854775809) n) (both (Nat.ble n (nat_lit 9223372036854775838)) (forkK (Nat.sub n (nat_lit 9223372036854775808)) fun m => k (.i64 (Nat.add (nat_lit 9223372036854775808) m))))))
  | _ => false
theorem rV_ok {a b c : Int} (ha : In64 a) (hb : In64 b) {v : Nat} (h0 : a % 30 = v) : Fc.ok Tryz.prog (rhoF a b c) 5 ⟨hkR (rV v)⟩ := hkR_ok fun la args g k e hv => by
  unfold rV at e
  split at e
  case h_2 => cases e
  rename_i i n
  obtain ⟨x, y, hx, hy, hargs⟩ : ∃ x y, VR (rhoF a b c) g (.sym i) x ∧ VR (rhoF a b c) g (.i64 n) y ∧ args = #[x, y] := by
    obtain ⟨l⟩ := args
    cases hv with
    | cons _ x _ vs h hs => cases hs with
      | cons _ y _ ws h' hs' => cases hs' with
        | nil => exact ⟨x, y, h, h', rfl⟩
  have hx := hx.inv_sym
  obtain ⟨hy, _⟩ := hy.inv_i64
  subst hargs
  rcases sel_true e with ⟨e1, e⟩ | ⟨e1, e⟩
  · have e1 : i = 0 := beq_true e1
    subst e1
    obtain ⟨e2, e⟩ := both_true e
    have e2 : n = 9223372036854775838 := beq_true e2
    subst e2
    subst hx; subst hy
    have hv : v < 30 := by have := Int.emod_lt_of_pos a (show (0 : Int) < 30 by omega); omega
    exact ⟨.int .i64 (v : Int), fun w => by rw [← h0]; exact within_any a 30 w ha (by omega) (by omega), _, vr_num (by omega), e⟩
  · obtain ⟨d1, d2⟩ := both_true e
    clear e
    have d1 : i = 1 := beq_true d1
    subst d1
    obtain ⟨e2, d3⟩ := both_true d2
    obtain ⟨e3, e⟩ := both_true d3
    have e2 : 9223372036854775809 ≤ n := ble_true e2
    have e3 : n ≤ 9223372036854775838 := ble_true e3
    subst hx
    obtain ⟨m, rfl⟩ : ∃ m, n = 9223372036854775808 + m := ⟨n - 9223372036854775808, by omega⟩
    have hm : ((9223372036854775808 + m : Nat) : Int) - 9223372036854775808 = (m : Int) := by omega
    rw [hm] at hy
    subst hy
    have q1 := Int.emod_nonneg b (show (m : Int) ≠ 0 by omega)
    have q2 := Int.emod_lt_of_pos b (show (0 : Int) < m by omega)
    obtain ⟨u, hu⟩ : ∃ u : Nat, b % (m : Int) = u := ⟨(b % (m : Int)).toNat, by omega⟩
    have := forkK_true e u (by show u < 9223372036854775808 + m - 9223372036854775808; omega)
    exact ⟨.int .i64 (u : Int), fun w => by rw [← hu]; exact within_any b m w hb (by omega) (by omega), _, vr_num (by omega), this⟩
theorem known_s : c4.run (chK 50) [] hp0 isT = true := by kernel_rfl
theorem known_any {w : World} : Calls Tryz.prog 4 #[] w fun e w' => e = .returned (.bool true) ∧ w'.os = w.os ∧ w'.tape = w.tape ∧ w'.output = w.output ∧ w.heap.size ≤ w'.heap.size ∧ ∀ b, b < w.heap.size → w'.heap[b]? = w.heap[b]? :=
  sh_true (ρ := rhoF 0 0 0) (rhoF_one 0 0 0) (fun f => FcT.get_ok (tabT_ok (rhoF_one 0 0 0))) (ok4 (rhoF_one 0 0 0)) known_s fun _ => .nil
def hkN : Fc := ⟨fun ch la h c => List.rec (motive := fun _ => Bool) (hkT ch la h c) (fun _ _ _ => false) la⟩
theorem hkN_ok {ρ : Nat → Value} : Fc.ok Tryz.prog ρ 4 hkN := hkT_ok fun args w hs => by
  obtain rfl : args = #[] := Array.eq_empty_of_size_eq_zero hs
  exact known_any
def tabV (v f : Nat) : Fc := Bool.rec (motive := fun _ => Fc) (Bool.rec (motive := fun _ => Fc) (tabK f) hkN (Nat.beq f (nat_lit 4))) ⟨hkR (rV v)⟩ (Nat.beq f (nat_lit 5))
theorem tabV_ok {a b c : Int} (ha : In64 a) (hb : In64 b) {v : Nat} (h0 : a % 30 = v) (f : Nat) : Fc.ok Tryz.prog (rhoF a b c) f (tabV v f) := by
  unfold tabV
  cases h5 : Nat.beq f (nat_lit 5) with
  | true => rw [beq_true h5]; exact rV_ok ha hb h0
  | false =>
    cases h4 : Nat.beq f (nat_lit 4) with
    | true => rw [beq_true h4]; exact hkN_ok
    | false => exact FcT.get_ok (tabT_ok (rhoF_one a b c))
/-- One case: what the first input leaves by 30. -/
def fkV (v : Nat) : Bool := c3.run (chT (tabV v) 50) [.sym 0, .sym 1, .sym 2] hp0 isT
theorem fk_case {a b c : Int} (ha : In64 a) (hb : In64 b) (hc : In64 c) {v : Nat} (h0 : a % 30 = v) (e : fkV v = true) (w : World) : Calls Tryz.prog 3 #[.int .i64 a, .int .i64 b, .int .i64 c] w fun e w' => e = .returned (.bool true) ∧ w'.os = w.os ∧ w'.tape = w.tape ∧ w'.output = w.output ∧ w.heap.size ≤ w'.heap.size ∧ ∀ b, b < w.heap.size → w'.heap[b]? = w.heap[b]? :=
  sh_true (rhoF_one a b c) (tabV_ok ha hb h0) (ok3 ⟨rhoF_one a b c, c, hc, rfl⟩) e fun _ => .cons _ _ _ _ (.sym 0) (.cons _ _ _ _ (.sym 1) (.cons _ _ _ _ (.sym 2) .nil))
end
end Ev
end Go.Proofs.YtdhmmnmpdiekpaaGreatDoor
