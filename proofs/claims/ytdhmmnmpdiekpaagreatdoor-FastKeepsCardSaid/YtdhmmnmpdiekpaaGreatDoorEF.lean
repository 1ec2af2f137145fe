/- The program's types, for the shallow texts. · Numbers by name. · Walk: within. · FastKeeps: what its hooks lean on. -/
import Derived.Test.YtdhmmnmpdiekpaaGreatDoorEE
import Derived.KernelRfl
import Derived.Test.YtdhmmnmpdiekpaaGreatDoorProg
import Derived.WalkKit
import Derived.WalkSpells
set_option linter.unusedVariables false
set_option linter.unusedSimpArgs false
namespace Go.Proofs.YtdhmmnmpdiekpaaGreatDoor
namespace Ev
noncomputable section
def tT (t : Nat) : Option Ty := tyOf Tryz.prog t
theorem tT_ok : TTok Tryz.prog tT := tyOf_ok Tryz.prog
theorem hmO : Tryz.prog.follows .mixedOrders = true := by kernel_rfl
/-- The functions that are reached. -/
def dM : Nat := (nat_lit 3903918929322157914464956144263683016262286730843235745581477580843805948656227841848970070280783929766721525106318890483359712018424)
theorem dM_ok : DynOk Tryz.prog dM := dyn_ok 467 (by decide +kernel) (by kernel_rfl)
variable {ρ : Nat → Value}
abbrev KO (ρ : Nat → Value) (fn : Func) (p : Nat) (x : Cc) : Prop := Cc.ok (RR false) Tryz.prog ρ fn.ntmps (atN (bd fn) p) x
abbrev HO (ρ : Nat → Value) (fn : Func) (l : List (Nat × Cc)) : Prop := HkOk (RR false) Tryz.prog ρ fn.ntmps (bd fn) l
/-- A part. -/
theorem tl {fn : Func} {F : FsT} (q : QQ ρ) (hF : FTok Tryz.prog ρ F) {hk : List (Nat × Cc)} (h : HO ρ fn hk) {p : Nat} (h1 : Nat.ble 1 p = true) {x : Cc} (ins : List Nat) (o : Ou)
    (he : (fun ch F' h k => (ccHk tT F fn.ntmps false hk p (atN (bd fn) p)).run ch (mask ins F') h (wrapO o k)) = x.run) : KO ρ fn p x :=
  cut_ok (ccHk_ok hmO q tT_ok hF h _ _ (ble_true h1) rfl) ins o he
/-- A loop. -/
theorem lp {fn : Func} {F : FsT} (q : QQ ρ) (hF : FTok Tryz.prog ρ F) {hk : List (Nat × Cc)} (h : HO ρ fn hk) {p : Nat} (h1 : Nat.ble 1 p = true) {x : Nat → Cc} (ins : List Nat) (o : Ou)
    (hl : atN (bd fn) p = .loop (atN (bd fn) (Nat.mul 2 p))) (h0 : ∀ ch F h k, (x 0).run ch F h k = false)
    (he : ∀ n, (fun ch F' h k => (ccHk tT F fn.ntmps false hk (Nat.mul 2 p) (atN (bd fn) (Nat.mul 2 p))).run ch (mask ins F') h (loopX (x n) o ch k)) = (x (n + 1)).run) (n : Nat) : KO ρ fn p (x n) := by
  unfold KO
  rw [hl]
  exact loop_ok (ccHk_ok hmO q tT_ok hF h _ _ (by have := ble_true h1; show 1 ≤ 2 * p; omega) rfl) x ins o h0 he n
/-- A part that is left to the closures. -/
theorem lf {fn : Func} {F : FsT} (q : QQ ρ) (hF : FTok Tryz.prog ρ F) {p : Nat} {x : Cc} (ins : List Nat) (o : Ou)
    (he : (fun ch F' h k => (ccOf tT F fn.ntmps false (atN (bd fn) p)).run ch (mask ins F') h (wrapO o k)) = x.run) : KO ρ fn p x :=
  cut_ok (ccOf_ok hmO q tT_ok hF _) ins o he
/-- A function by its parts. -/
theorem fk {f : Nat} {fn : Func} {F : FsT} (q : QQ ρ) (hF : FTok Tryz.prog ρ F) {hk : List (Nat × Cc)} (hf : Tryz.prog.funcs[f]? = some fn) (hb : fn.body = some (bd fn)) (h : HO ρ fn hk) {fc : Fc}
    (he : ∀ ch la hp k, fc.run ch la hp k = true → fnR (ccHk tT F fn.ntmps false hk 1 (bd fn)) (rsOf tT fn.results.toList) ch la hp k = true) : Fc.ok Tryz.prog ρ f fc := fun ch la args g hp w k hch e hv hr =>
  fnR_ok hf hb ((ccHk_ok hmO q tT_ok hF h (bd fn) 1 (Nat.le_refl _) rfl).weaken fun r hr _ => hr) (rsOf_ok tT_ok) ch la args g hp w k hch (he ch la hp k e) hv hr
inductive FcT where
  | leaf (f : Nat) (c : Fc)
  | node (m : Nat) (l r : FcT)
def FcT.lf (f n : Nat) (c : Fc) : Fc := Bool.rec (motive := fun _ => Fc) fcNo c (Nat.beq f n)
def FcT.nd (f m : Nat) (_ _ : FcT) (x y : Fc) : Fc := Bool.rec (motive := fun _ => Fc) y x (Nat.ble f m)
def FcT.get (t : FcT) (f : Nat) : Fc := FcT.rec (motive := fun _ => Fc) (FcT.lf f) (FcT.nd f) t
def FcT.Ok (P : Program) (ρ : Nat → Value) : FcT → Prop
  | .leaf f c => Fc.ok P ρ f c
  | .node _ l r => l.Ok P ρ ∧ r.Ok P ρ
theorem FcT.get_ok {P : Program} {f : Nat} : ∀ {t : FcT}, t.Ok P ρ → Fc.ok P ρ f (t.get f)
  | .leaf n c, h => by
    show Fc.ok P ρ f (Bool.rec (motive := fun _ => Fc) fcNo c (Nat.beq f n))
    cases hb : Nat.beq f n with
    | true => rw [beq_true hb]; exact h
    | false => exact fun ch la args g h w c _ e => Bool.noConfusion (show false = true from e)
  | .node m l r, h => by
    show Fc.ok P ρ f (Bool.rec (motive := fun _ => Fc) (r.get f) (l.get f) (Nat.ble f m))
    cases Nat.ble f m with
    | true => exact FcT.get_ok h.1
    | false => exact FcT.get_ok h.2
def F0 : FsT := feOf Tryz.prog dM []
theorem F0_ok (q : QQ ρ) : FTok Tryz.prog ρ F0 := feOf_ok dM_ok trivial
/-- Calls, by a table. -/
def chT (tab : Nat → Fc) (n : Nat) : CH := callF ⟨ylR (fun N c => ccOf tT F0 N true c)⟩ tab n
theorem chT_ok (q : QQ ρ) {tab : Nat → Fc} (ht : ∀ f, Fc.ok Tryz.prog ρ f (tab f)) (n : Nat) : CHok Tryz.prog ρ (chT tab n) :=
  callF_ok (ylR_ok fun N c => (ccOf_ok hmO q tT_ok (F0_ok q) c).weaken fun r _ h => by cases h) ht n
/-- A call that answers true, whatever the memory: and no block that was there is another one. -/
theorem sh_true (q : QQ ρ) {tab : Nat → Fc} (ht : ∀ f, Fc.ok Tryz.prog ρ f (tab f)) {n f : Nat} {fc : Fc} (hf : Fc.ok Tryz.prog ρ f fc) {la : List AV} {args : Array Value} {w : World} (e : fc.run (chT tab n) la hp0 isT = true)
    (hv : ∀ g, VRs ρ g la args.toList) : Calls Tryz.prog f args w fun e w' => e = .returned (.bool true) ∧ w'.os = w.os ∧ w'.tape = w.tape ∧ w'.output = w.output ∧ w.heap.size ≤ w'.heap.size ∧ ∀ b, b < w.heap.size → w'.heap[b]? = w.heap[b]? := by
  let g0 : G := ⟨fun _ => none, fun _ => 0, fun _ => 0, fun _ => #[]⟩
  have hr : HR ρ g0 hp0 w := ⟨fun l b c h => (by cases h), fun l l' b c c' h => (by cases h), fun l b c h => (by cases h), fun l p h => (by cases h)⟩
  refine Calls.mono (hf _ la args g0 hp0 w isT (chT_ok q ht n) e (hv g0) hr) fun e' w' ⟨v, he, a, g', h', s, hva, hc⟩ => ?_
  rcases AV.boolK_true (v := a) hc with ⟨h1, _⟩ | ⟨_, h1⟩
  · subst h1
    have := hva.inv_bool
    subst this
    exact ⟨he, s.os, s.tape, s.output, s.size, fun b hb => (s.fr b hb fun l c h => by cases h).1⟩
  · cases h1
end
end Ev
end Go.Proofs.YtdhmmnmpdiekpaaGreatDoor
namespace Go.Proofs.YtdhmmnmpdiekpaaGreatDoor
namespace Ev
noncomputable section
abbrev N0 : Nat := nat_lit 0
abbrev N1 : Nat := nat_lit 1
abbrev N2 : Nat := nat_lit 2
abbrev N3 : Nat := nat_lit 3
abbrev N4 : Nat := nat_lit 4
abbrev N5 : Nat := nat_lit 5
abbrev N6 : Nat := nat_lit 6
abbrev N7 : Nat := nat_lit 7
abbrev N8 : Nat := nat_lit 8
abbrev N9 : Nat := nat_lit 9
abbrev N10 : Nat := nat_lit 10
abbrev N11 : Nat := nat_lit 11
abbrev N12 : Nat := nat_lit 12
abbrev N13 : Nat := nat_lit 13
abbrev N14 : Nat := nat_lit 14
abbrev N15 : Nat := nat_lit 15
abbrev N16 : Nat := nat_lit 16
abbrev N17 : Nat := nat_lit 17
abbrev N18 : Nat := nat_lit 18
abbrev N19 : Nat := nat_lit 19
abbrev N21 : Nat := nat_lit 21
abbrev N23 : Nat := nat_lit 23
abbrev N24 : Nat := nat_lit 24
abbrev N25 : Nat := nat_lit 25
abbrev N26 : Nat := nat_lit 26
abbrev N28 : Nat := nat_lit 28
abbrev N29 : Nat := nat_lit 29
abbrev N30 : Nat := nat_lit 30
abbrev N31 : Nat := nat_lit 31
abbrev N32 : Nat := nat_lit 32
abbrev N33 : Nat := nat_lit 33
abbrev N40 : Nat := nat_lit 40
abbrev N41 : Nat := nat_lit 41
abbrev N43 : Nat := nat_lit 43
abbrev N46 : Nat := nat_lit 46
abbrev N48 : Nat := nat_lit 48
abbrev N50 : Nat := nat_lit 50
abbrev N51 : Nat := nat_lit 51
abbrev N53 : Nat := nat_lit 53
abbrev N54 : Nat := nat_lit 54
abbrev N56 : Nat := nat_lit 56
abbrev N57 : Nat := nat_lit 57
abbrev N58 : Nat := nat_lit 58
abbrev N60 : Nat := nat_lit 60
abbrev N62 : Nat := nat_lit 62
abbrev N63 : Nat := nat_lit 63
abbrev N65 : Nat := nat_lit 65
abbrev N67 : Nat := nat_lit 67
abbrev N68 : Nat := nat_lit 68
abbrev N69 : Nat := nat_lit 69
abbrev N70 : Nat := nat_lit 70
abbrev N71 : Nat := nat_lit 71
abbrev N72 : Nat := nat_lit 72
abbrev N73 : Nat := nat_lit 73
abbrev N84 : Nat := nat_lit 84
abbrev N85 : Nat := nat_lit 85
abbrev N86 : Nat := nat_lit 86
abbrev N87 : Nat := nat_lit 87
abbrev N88 : Nat := nat_lit 88
abbrev N89 : Nat := nat_lit 89
abbrev N90 : Nat := nat_lit 90
abbrev N91 : Nat := nat_lit 91
abbrev N92 : Nat := nat_lit 92
abbrev N95 : Nat := nat_lit 95
abbrev N97 : Nat := nat_lit 97
abbrev N102 : Nat := nat_lit 102
abbrev N103 : Nat := nat_lit 103
abbrev N105 : Nat := nat_lit 105
abbrev N106 : Nat := nat_lit 106
abbrev N107 : Nat := nat_lit 107
abbrev N110 : Nat := nat_lit 110
abbrev N111 : Nat := nat_lit 111
abbrev N112 : Nat := nat_lit 112
abbrev N113 : Nat := nat_lit 113
abbrev N114 : Nat := nat_lit 114
abbrev N118 : Nat := nat_lit 118
abbrev N121 : Nat := nat_lit 121
abbrev N122 : Nat := nat_lit 122
abbrev N125 : Nat := nat_lit 125
abbrev N126 : Nat := nat_lit 126
abbrev N127 : Nat := nat_lit 127
abbrev N134 : Nat := nat_lit 134
abbrev N136 : Nat := nat_lit 136
abbrev N138 : Nat := nat_lit 138
abbrev N139 : Nat := nat_lit 139
abbrev N144 : Nat := nat_lit 144
abbrev N168 : Nat := nat_lit 168
abbrev N180 : Nat := nat_lit 180
abbrev N186 : Nat := nat_lit 186
abbrev N206 : Nat := nat_lit 206
abbrev N211 : Nat := nat_lit 211
abbrev N216 : Nat := nat_lit 216
abbrev N223 : Nat := nat_lit 223
abbrev N225 : Nat := nat_lit 225
abbrev N231 : Nat := nat_lit 231
abbrev N233 : Nat := nat_lit 233
abbrev N234 : Nat := nat_lit 234
abbrev N235 : Nat := nat_lit 235
abbrev N238 : Nat := nat_lit 238
abbrev N239 : Nat := nat_lit 239
abbrev N242 : Nat := nat_lit 242
abbrev N250 : Nat := nat_lit 250
abbrev N254 : Nat := nat_lit 254
abbrev N255 : Nat := nat_lit 255
abbrev N257 : Nat := nat_lit 257
abbrev N262 : Nat := nat_lit 262
abbrev N274 : Nat := nat_lit 274
abbrev N275 : Nat := nat_lit 275
abbrev N276 : Nat := nat_lit 276
abbrev N277 : Nat := nat_lit 277
abbrev N278 : Nat := nat_lit 278
abbrev N284 : Nat := nat_lit 284
abbrev N285 : Nat := nat_lit 285
abbrev N303 : Nat := nat_lit 303
abbrev N305 : Nat := nat_lit 305
abbrev N320 : Nat := nat_lit 320
abbrev N366 : Nat := nat_lit 366
abbrev N394 : Nat := nat_lit 394
abbrev N415 : Nat := nat_lit 415
abbrev N423 : Nat := nat_lit 423
abbrev N430 : Nat := nat_lit 430
abbrev N431 : Nat := nat_lit 431
abbrev N446 : Nat := nat_lit 446
abbrev N462 : Nat := nat_lit 462
abbrev N467 : Nat := nat_lit 467
abbrev N489 : Nat := nat_lit 489
abbrev N498 : Nat := nat_lit 498
abbrev N502 : Nat := nat_lit 502
abbrev N506 : Nat := nat_lit 506
abbrev N508 : Nat := nat_lit 508
abbrev N830 : Nat := nat_lit 830
abbrev N895 : Nat := nat_lit 895
abbrev N897 : Nat := nat_lit 897
abbrev N927 : Nat := nat_lit 927
abbrev N938 : Nat := nat_lit 938
abbrev N942 : Nat := nat_lit 942
abbrev N943 : Nat := nat_lit 943
abbrev N974 : Nat := nat_lit 974
abbrev N979 : Nat := nat_lit 979
abbrev N993 : Nat := nat_lit 993
abbrev N1011 : Nat := nat_lit 1011
abbrev N1018 : Nat := nat_lit 1018
abbrev N1020 : Nat := nat_lit 1020
abbrev N1023 : Nat := nat_lit 1023
abbrev N1663 : Nat := nat_lit 1663
abbrev N1682 : Nat := nat_lit 1682
abbrev N1727 : Nat := nat_lit 1727
abbrev N1790 : Nat := nat_lit 1790
abbrev N1854 : Nat := nat_lit 1854
abbrev N1887 : Nat := nat_lit 1887
abbrev N1906 : Nat := nat_lit 1906
abbrev N1966 : Nat := nat_lit 1966
abbrev N1998 : Nat := nat_lit 1998
abbrev N2003 : Nat := nat_lit 2003
abbrev N2025 : Nat := nat_lit 2025
abbrev N2026 : Nat := nat_lit 2026
abbrev N2030 : Nat := nat_lit 2030
abbrev N2033 : Nat := nat_lit 2033
abbrev N2034 : Nat := nat_lit 2034
abbrev N2042 : Nat := nat_lit 2042
abbrev N2047 : Nat := nat_lit 2047
abbrev N3326 : Nat := nat_lit 3326
abbrev N3366 : Nat := nat_lit 3366
abbrev N3379 : Nat := nat_lit 3379
abbrev N3583 : Nat := nat_lit 3583
abbrev N3711 : Nat := nat_lit 3711
abbrev N3730 : Nat := nat_lit 3730
abbrev N3774 : Nat := nat_lit 3774
abbrev N3858 : Nat := nat_lit 3858
abbrev N3863 : Nat := nat_lit 3863
abbrev N3913 : Nat := nat_lit 3913
abbrev N3935 : Nat := nat_lit 3935
abbrev N4051 : Nat := nat_lit 4051
abbrev N4081 : Nat := nat_lit 4081
abbrev N4090 : Nat := nat_lit 4090
abbrev N4095 : Nat := nat_lit 4095
abbrev N6734 : Nat := nat_lit 6734
abbrev N6758 : Nat := nat_lit 6758
abbrev N7169 : Nat := nat_lit 7169
abbrev N7422 : Nat := nat_lit 7422
abbrev N7462 : Nat := nat_lit 7462
abbrev N7466 : Nat := nat_lit 7466
abbrev N7551 : Nat := nat_lit 7551
abbrev N7727 : Nat := nat_lit 7727
abbrev N7754 : Nat := nat_lit 7754
abbrev N7827 : Nat := nat_lit 7827
abbrev N7870 : Nat := nat_lit 7870
abbrev N7946 : Nat := nat_lit 7946
abbrev N8009 : Nat := nat_lit 8009
abbrev N8110 : Nat := nat_lit 8110
abbrev N8133 : Nat := nat_lit 8133
abbrev N8142 : Nat := nat_lit 8142
abbrev N8147 : Nat := nat_lit 8147
abbrev N8169 : Nat := nat_lit 8169
abbrev N8186 : Nat := nat_lit 8186
abbrev N8191 : Nat := nat_lit 8191
abbrev N13310 : Nat := nat_lit 13310
abbrev N13518 : Nat := nat_lit 13518
abbrev N14335 : Nat := nat_lit 14335
abbrev N14847 : Nat := nat_lit 14847
abbrev N14922 : Nat := nat_lit 14922
abbrev N14926 : Nat := nat_lit 14926
abbrev N14951 : Nat := nat_lit 14951
abbrev N15102 : Nat := nat_lit 15102
abbrev N15514 : Nat := nat_lit 15514
abbrev N15654 : Nat := nat_lit 15654
abbrev N15655 : Nat := nat_lit 15655
abbrev N16018 : Nat := nat_lit 16018
abbrev N16267 : Nat := nat_lit 16267
abbrev N16378 : Nat := nat_lit 16378
abbrev N26922 : Nat := nat_lit 26922
abbrev N28670 : Nat := nat_lit 28670
abbrev N29694 : Nat := nat_lit 29694
abbrev N29898 : Nat := nat_lit 29898
abbrev N29902 : Nat := nat_lit 29902
abbrev N29903 : Nat := nat_lit 29903
abbrev N31034 : Nat := nat_lit 31034
abbrev N31306 : Nat := nat_lit 31306
abbrev N31310 : Nat := nat_lit 31310
abbrev N31311 : Nat := nat_lit 31311
abbrev N31334 : Nat := nat_lit 31334
abbrev N31335 : Nat := nat_lit 31335
abbrev N31486 : Nat := nat_lit 31486
abbrev N32038 : Nat := nat_lit 32038
abbrev N32402 : Nat := nat_lit 32402
abbrev N32403 : Nat := nat_lit 32403
abbrev N32446 : Nat := nat_lit 32446
abbrev N32723 : Nat := nat_lit 32723
abbrev N32762 : Nat := nat_lit 32762
abbrev N59391 : Nat := nat_lit 59391
abbrev N59689 : Nat := nat_lit 59689
abbrev N59805 : Nat := nat_lit 59805
abbrev N60414 : Nat := nat_lit 60414
abbrev N62057 : Nat := nat_lit 62057
abbrev N62074 : Nat := nat_lit 62074
abbrev N62622 : Nat := nat_lit 62622
abbrev N62670 : Nat := nat_lit 62670
abbrev N62671 : Nat := nat_lit 62671
abbrev N63571 : Nat := nat_lit 63571
abbrev N64102 : Nat := nat_lit 64102
abbrev N64103 : Nat := nat_lit 64103
abbrev N64806 : Nat := nat_lit 64806
abbrev N65353 : Nat := nat_lit 65353
abbrev N65530 : Nat := nat_lit 65530
abbrev N107694 : Nat := nat_lit 107694
abbrev N108135 : Nat := nat_lit 108135
abbrev N114686 : Nat := nat_lit 114686
abbrev N118782 : Nat := nat_lit 118782
abbrev N119610 : Nat := nat_lit 119610
abbrev N119614 : Nat := nat_lit 119614
abbrev N124137 : Nat := nat_lit 124137
abbrev N125241 : Nat := nat_lit 125241
abbrev N125950 : Nat := nat_lit 125950
abbrev N128154 : Nat := nat_lit 128154
abbrev N128206 : Nat := nat_lit 128206
abbrev N129609 : Nat := nat_lit 129609
abbrev N129790 : Nat := nat_lit 129790
abbrev N130355 : Nat := nat_lit 130355
abbrev N131071 : Nat := nat_lit 131071
abbrev N229375 : Nat := nat_lit 229375
abbrev N238793 : Nat := nat_lit 238793
abbrev N239215 : Nat := nat_lit 239215
abbrev N250686 : Nat := nat_lit 250686
abbrev N256410 : Nat := nat_lit 256410
abbrev N259218 : Nat := nat_lit 259218
abbrev N259219 : Nat := nat_lit 259219
abbrev N259230 : Nat := nat_lit 259230
abbrev N260710 : Nat := nat_lit 260710
abbrev N261414 : Nat := nat_lit 261414
abbrev N430782 : Nat := nat_lit 430782
abbrev N458750 : Nat := nat_lit 458750
abbrev N475134 : Nat := nat_lit 475134
abbrev N477478 : Nat := nat_lit 477478
abbrev N501363 : Nat := nat_lit 501363
abbrev N501374 : Nat := nat_lit 501374
abbrev N518451 : Nat := nat_lit 518451
abbrev N521417 : Nat := nat_lit 521417
abbrev N521422 : Nat := nat_lit 521422
abbrev N522855 : Nat := nat_lit 522855
abbrev N524243 : Nat := nat_lit 524243
abbrev N524282 : Nat := nat_lit 524282
abbrev N524287 : Nat := nat_lit 524287
abbrev N865075 : Nat := nat_lit 865075
abbrev N917503 : Nat := nat_lit 917503
abbrev N956883 : Nat := nat_lit 956883
abbrev N1000000 : Nat := nat_lit 1000000
abbrev I0 : AV := AV.i64 (nat_lit 9223372036854775808)
abbrev I1 : AV := AV.i64 (nat_lit 9223372036854775809)
abbrev I2 : AV := AV.i64 (nat_lit 9223372036854775810)
abbrev I3 : AV := AV.i64 (nat_lit 9223372036854775811)
abbrev I4 : AV := AV.i64 (nat_lit 9223372036854775812)
abbrev I5 : AV := AV.i64 (nat_lit 9223372036854775813)
abbrev I6 : AV := AV.i64 (nat_lit 9223372036854775814)
abbrev I7 : AV := AV.i64 (nat_lit 9223372036854775815)
abbrev I8 : AV := AV.i64 (nat_lit 9223372036854775816)
abbrev I9 : AV := AV.i64 (nat_lit 9223372036854775817)
abbrev I10 : AV := AV.i64 (nat_lit 9223372036854775818)
abbrev I11 : AV := AV.i64 (nat_lit 9223372036854775819)
abbrev I12 : AV := AV.i64 (nat_lit 9223372036854775820)
abbrev I13 : AV := AV.i64 (nat_lit 9223372036854775821)
abbrev I16 : AV := AV.i64 (nat_lit 9223372036854775824)
abbrev I18 : AV := AV.i64 (nat_lit 9223372036854775826)
abbrev I19 : AV := AV.i64 (nat_lit 9223372036854775827)
abbrev I20 : AV := AV.i64 (nat_lit 9223372036854775828)
abbrev I24 : AV := AV.i64 (nat_lit 9223372036854775832)
abbrev I25 : AV := AV.i64 (nat_lit 9223372036854775833)
abbrev I26 : AV := AV.i64 (nat_lit 9223372036854775834)
abbrev I27 : AV := AV.i64 (nat_lit 9223372036854775835)
abbrev I28 : AV := AV.i64 (nat_lit 9223372036854775836)
abbrev I29 : AV := AV.i64 (nat_lit 9223372036854775837)
abbrev I30 : AV := AV.i64 (nat_lit 9223372036854775838)
abbrev I31 : AV := AV.i64 (nat_lit 9223372036854775839)
abbrev I32 : AV := AV.i64 (nat_lit 9223372036854775840)
abbrev I33 : AV := AV.i64 (nat_lit 9223372036854775841)
abbrev I34 : AV := AV.i64 (nat_lit 9223372036854775842)
abbrev I35 : AV := AV.i64 (nat_lit 9223372036854775843)
abbrev I36 : AV := AV.i64 (nat_lit 9223372036854775844)
abbrev I37 : AV := AV.i64 (nat_lit 9223372036854775845)
abbrev I38 : AV := AV.i64 (nat_lit 9223372036854775846)
abbrev I39 : AV := AV.i64 (nat_lit 9223372036854775847)
abbrev I40 : AV := AV.i64 (nat_lit 9223372036854775848)
abbrev I41 : AV := AV.i64 (nat_lit 9223372036854775849)
abbrev I42 : AV := AV.i64 (nat_lit 9223372036854775850)
abbrev I43 : AV := AV.i64 (nat_lit 9223372036854775851)
abbrev I44 : AV := AV.i64 (nat_lit 9223372036854775852)
abbrev I45 : AV := AV.i64 (nat_lit 9223372036854775853)
abbrev I46 : AV := AV.i64 (nat_lit 9223372036854775854)
abbrev I56 : AV := AV.i64 (nat_lit 9223372036854775864)
abbrev I57 : AV := AV.i64 (nat_lit 9223372036854775865)
abbrev I64 : AV := AV.i64 (nat_lit 9223372036854775872)
abbrev I77 : AV := AV.i64 (nat_lit 9223372036854775885)
abbrev I96 : AV := AV.i64 (nat_lit 9223372036854775904)
abbrev I255 : AV := AV.i64 (nat_lit 9223372036854776063)
abbrev I256 : AV := AV.i64 (nat_lit 9223372036854776064)
abbrev I257 : AV := AV.i64 (nat_lit 9223372036854776065)
abbrev I264 : AV := AV.i64 (nat_lit 9223372036854776072)
abbrev I1024 : AV := AV.i64 (nat_lit 9223372036854776832)
abbrev I4096 : AV := AV.i64 (nat_lit 9223372036854779904)
abbrev I65536 : AV := AV.i64 (nat_lit 9223372036854841344)
abbrev J1 : AV := AV.i64 (nat_lit 9223372036854775807)
end
end Ev
end Go.Proofs.YtdhmmnmpdiekpaaGreatDoor
namespace Go.Proofs.YtdhmmnmpdiekpaaGreatDoor
open Go.RowKit
set_option linter.unusedVariables false
set_option linter.unusedSimpArgs false
def In64 (n : Int) : Prop := -9223372036854775808 ≤ n ∧ n ≤ 9223372036854775807
theorem tmod_cases (a n : Int) (h0 : a < 0) (hn : 1 ≤ n) : (a.tmod n = 0 ∧ a % n = 0) ∨ (a.tmod n < 0 ∧ a.tmod n + n = a % n) := by
  have hr := Int.emod_nonneg a (show n ≠ 0 by omega)
  have hlt := Int.emod_lt_of_pos a (show 0 < n by omega)
  have h := Int.tmod_eq_emod (a := a) (b := n)
  by_cases hd : n ∣ a
  · left
    have := Int.emod_eq_zero_of_dvd hd
    rw [if_pos (.inr hd)] at h
    omega
  · right
    rw [if_neg (by rintro (h | h); omega; exact hd h)] at h
    omega
structure Hid (p : Prop) : Prop where
  out : p
set_option maxHeartbeats 400000 in
theorem within_any (a n : Int) (w : World) (ha : In64 a) (hn : 1 ≤ n) (hm : n ≤ 1048576) : Calls Tryz.prog 5 #[.int .i64 a, .int .i64 n] w fun e w' => e = .returned (.int .i64 (a % n)) ∧ w' = w := by
  obtain ⟨h1, h2⟩ := ha
  have hr := Int.emod_nonneg a (show n ≠ 0 by omega)
  have hlt := Int.emod_lt_of_pos a (show 0 < n by omega)
  have hne : (n == 0) = false := by simp; omega
  by_cases h0 : 0 ≤ a
  · go_enter Tryz.func5, Tryz.ntmps5
    go_wp2
    go_ret
    exact ⟨rfl, rfl⟩
  · rcases tmod_cases a n (by omega) hn with ⟨h3, h4⟩ | ⟨h3, h4⟩
    · have H3 : Hid _ := ⟨h3⟩
      have H4 : Hid _ := ⟨h4⟩
      have h5 : 0 ≤ a.tmod n := by omega
      have h6 : a.tmod n ≤ 0 := by omega
      clear h3 h4
      go_enter Tryz.func5, Tryz.ntmps5
      go_wp2
      go_ret
      exact ⟨by rw [H4.out, ← H3.out]; rfl, rfl⟩
    · have H4 : Hid _ := ⟨h4⟩
      have h5 : 0 ≤ a.tmod n + n := by omega
      have h6 : a.tmod n + n ≤ n := by omega
      clear h4
      go_enter Tryz.func5, Tryz.ntmps5
      go_wp2
      go_ret
      exact ⟨by rw [← H4.out]; rfl, rfl⟩
end Go.Proofs.YtdhmmnmpdiekpaaGreatDoor
namespace Go.Proofs.YtdhmmnmpdiekpaaGreatDoor
namespace Ev
set_option linter.unusedVariables false
noncomputable section
open AV (aggK boolK i64K)
variable {ρ : Nat → Value} {P : Program} {N : Nat} {R : Option Nat → Prop}
theorem nthK_conv : ∀ {l : List AV} {n : Nat} {a : AV} {k : AV → Bool}, l[n]? = some a → nthK l n k = k a
  | [], _, _, _, h => by simp at h
  | b :: r, 0, a, k, h => by
    simp only [List.getElem?_cons_zero, Option.some.injEq] at h
    subst h
    rfl
  | b :: r, n + 1, a, k, h => nthK_conv (l := r) (n := n) (by simpa using h)
theorem ctF_conv : ∀ (f : Nat) (l : List AV) (q : Nat) (a : AV), q + 1 < 2 ^ f → l[q]? = some a → (ctF f l).get q = [a]
  | 0, l, q, a, hq, h => by simp at hq
  | f + 1, [], q, a, hq, h => by simp at h
  | f + 1, b :: l, q, a, hq, h => by
    show CT.get (.n [b] (ctF f (altL l true)) (ctF f (altL l false))) q = [a]
    unfold CT.get
    rw [Nat.pow_succ] at hq
    split
    · rename_i h0
      subst h0
      simp only [List.getElem?_cons_zero, Option.some.injEq] at h
      rw [h]
    · split
      · rename_i h0 h1
        obtain ⟨q', rfl⟩ : ∃ q', q = q' + 1 := ⟨q - 1, by omega⟩
        refine ctF_conv f _ _ a (by omega) ?_
        rw [(altL_get l _).1, show 2 * ((q' + 1) / 2) = q' from by omega]
        simpa using h
      · rename_i h0 h1
        obtain ⟨q', rfl⟩ : ∃ q', q = q' + 1 := ⟨q - 1, by omega⟩
        refine ctF_conv f _ _ a (by omega) ?_
        rw [(altL_get l _).2, show 2 * ((q' + 1) / 2 - 1) + 1 = q' from by omega]
        simpa using h
theorem nthG_conv {l : List AV} {n : Nat} {a : AV} {k : AV → Bool} (h : l[n]? = some a) (hn : n < 4000) : nthG l n k = k a := by
  unfold nthG sel
  cases Nat.ble n (nat_lit 24) with
  | true => exact nthK_conv h
  | false =>
    show nthF l n k = k a
    unfold nthF
    rw [CT.at_eq, ctF_conv 12 l n a (by omega) h]
theorem mono_ok {c : Code} {x y : Cc} (h : Cc.ok R P ρ N c x) (he : ∀ ch F hp k, y.run ch F hp k = true → x.run ch F hp k = true) : Cc.ok R P ρ N c y := fun ch F hp k g a w r n0 hR hch hn0 e hF hd hr => h ch F hp k g a w r n0 hR hch hn0 (he ch F hp k e) hF hd hr
def lenL (l : List AV) : Nat := List.rec (motive := fun _ => Nat) (nat_lit 0) (fun _ _ ih => Nat.succ ih) l
theorem lenL_eq : ∀ l : List AV, lenL l = l.length
  | [] => rfl
  | a :: l => congrArg Nat.succ (lenL_eq l)
theorem aI2_e {f : Nat → Nat → AV} {u v : Nat} {h : Hp} {c : AV → Hp → Bool} : aI2 f (.i64 u) (.i64 v) h c = c (f u v) h := rfl
theorem boolK_t {A B : Bool} : boolK (.bool true) A B = A := rfl
theorem boolK_f {A B : Bool} : boolK (.bool false) A B = B := rfl
theorem both_t {A : Bool} : both true A = A := rfl
theorem aggK_e {m : Nat} {L : List AV} {y : Nat → List AV → Bool} : AV.aggK (.agg m L) y = y m L := rfl
theorem idxK_e {u : Nat} {y : Nat → Bool} : AV.idxK (.i64 u) y = AV.idx1 y u := rfl
theorem aIdxA1_e {n z m u : Nat} {L : List AV} {h : Hp} {c : AV → Hp → Bool} : aIdxA1 n z (.agg m L) (.i64 u) h c = both (Nat.ble (nat_lit 9223372036854775808) u) (both (Nat.ble (Nat.succ (Nat.sub u (nat_lit 9223372036854775808))) n) (nthG L (Nat.mul (Nat.sub u (nat_lit 9223372036854775808)) z) fun a => c a h)) := by
  unfold aIdxA1
  rw [idxK_e]
  unfold AV.idx1 aIdx1 aPart1
  rw [aggK_e]
theorem fLss_t {u v : Nat} (h : u < v) : fLss u v = .bool true := congrArg AV.bool (Nat.ble_eq_true_of_le h)
theorem fLss_f {u v : Nat} (h : v ≤ u) : fLss u v = .bool false := by
  unfold fLss
  cases hb : Nat.ble (Nat.succ u) v with
  | false => rfl
  | true => have := ble_true hb; exact absurd (show u + 1 ≤ v from this) (by omega)
/-- The third input is a number. -/
def QF (ρ : Nat → Value) : Prop := QQ ρ ∧ ∃ c, In64 c ∧ ρ 2 = .int .i64 c
theorem VR.inv_sym {ρ : Nat → Value} {g : G} {i : Nat} {v : Value} (h : VR ρ g (.sym i) v) : v = ρ i := by cases h; rfl
theorem vr_num {ρ : Nat → Value} {g : G} {m : Nat} (hm : m < 1048576) : VR ρ g (.i64 (Nat.add 9223372036854775808 m)) (.int .i64 (m : Int)) := by
  have := VR.i64 (ρ := ρ) (g := g) (Nat.add 9223372036854775808 m) (by show 9223372036854775808 + m < _; omega)
  have e : ((Nat.add 9223372036854775808 m : Nat) : Int) - 9223372036854775808 = (m : Int) := by show ((9223372036854775808 + m : Nat) : Int) - _ = _; omega
  rw [e] at this
  exact this
def symC (i : Nat) (a : AV) (b : Bool) : Bool := match a with
  | .sym j => both (Nat.beq j i) b
  | _ => false
theorem symC_true {i : Nat} {a : AV} {b : Bool} (h : symC i a b = true) : a = .sym i ∧ b = true := by
  unfold symC at h
  split at h
  · obtain ⟨h1, h2⟩ := both_true h
    rw [beq_true h1]
    exact ⟨rfl, h2⟩
  · cases h
/-- within(c, 4) is r. -/
def rC (r : Nat) (la : List AV) (k : AV → Bool) : Bool := match la with
  | [.sym i, .i64 n] => both (Nat.beq i (nat_lit 2)) (both (Nat.beq n (nat_lit 9223372036854775812)) (k (.i64 (Nat.add (nat_lit 9223372036854775808) r))))
  | _ => false
theorem rC_ok {c : Int} (hc : In64 c) (h3 : ρ 2 = .int .i64 c) {r : Nat} (h2 : c % 4 = r) : Fc.ok Tryz.prog ρ 5 ⟨hkR (rC r)⟩ := hkR_ok fun la args g k e hv => by
  unfold rC at e
  split at e
  case h_2 => cases e
  rename_i i n
  obtain ⟨x, y, hx, hy, hargs⟩ : ∃ x y, VR ρ g (.sym i) x ∧ VR ρ g (.i64 n) y ∧ args = #[x, y] := by
    obtain ⟨l⟩ := args
    cases hv with
    | cons _ x _ vs h hs => cases hs with
      | cons _ y _ ws h' hs' => cases hs' with
        | nil => exact ⟨x, y, h, h', rfl⟩
  have hx := hx.inv_sym
  obtain ⟨hy, _⟩ := hy.inv_i64
  subst hargs
  obtain ⟨e1, e⟩ := both_true e
  obtain ⟨e2, e⟩ := both_true e
  have e1 : i = 2 := beq_true e1
  have e2 : n = 9223372036854775812 := beq_true e2
  subst e1; subst e2
  rw [h3] at hx
  subst hx; subst hy
  have hv : r < 4 := by have := Int.emod_lt_of_pos c (show (0 : Int) < 4 by omega); omega
  exact ⟨.int .i64 (r : Int), fun w => by rw [← h2]; exact within_any c 4 w hc (by omega) (by omega), _, vr_num (by omega), e⟩
def tabR (r f : Nat) : Fc := Bool.rec (motive := fun _ => Fc) fcNo ⟨hkR (rC r)⟩ (Nat.beq f (nat_lit 5))
theorem tabR_ok {c : Int} (hc : In64 c) (h3 : ρ 2 = .int .i64 c) {r : Nat} (h2 : c % 4 = r) (f : Nat) : Fc.ok Tryz.prog ρ f (tabR r f) := by
  unfold tabR
  cases h5 : Nat.beq f (nat_lit 5) with
  | true => rw [beq_true h5]; exact rC_ok hc h3 h2
  | false => exact fun ch la args g h w c _ e => Bool.noConfusion (show false = true from e)
/-- What answers within(c, 4) by r. -/
def chR (r : Nat) : CH := chT (tabR r) 1
theorem chR_e {r : Nat} {h : Hp} {c : AV → Hp → Bool} : chR r N5 [.sym (nat_lit 2), I4] h c = c (.i64 (Nat.add (nat_lit 9223372036854775808) r)) h := rfl
theorem nat_le_or (u r : Nat) (hr : r < 4) (h : Nat.ble (nat_lit 9223372036854775811) u = true) : Nat.add (nat_lit 9223372036854775808) r ≤ u := by
  have h1 := ble_true h
  have : Nat.add (nat_lit 9223372036854775808) r = 9223372036854775808 + r := rfl
  rw [this]
  have : (9223372036854775811 : Nat) ≤ u := h1
  omega
end
end Ev
end Go.Proofs.YtdhmmnmpdiekpaaGreatDoor
