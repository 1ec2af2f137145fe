/- The program's types, for the shallow texts. · Numbers by name. · Walk: within. -/
import Derived.Test.YticoibkgeejkoaaGreatDoorEE
import Derived.KernelRfl
import Derived.Test.YticoibkgeejkoaaGreatDoorProg
import Derived.WalkKit
import Derived.WalkSpells
set_option linter.unusedVariables false
set_option linter.unusedSimpArgs false
namespace Go.Proofs.YticoibkgeejkoaaGreatDoor
namespace Ev
noncomputable section
def tT (t : Nat) : Option Ty := tyF Tryz.prog t
theorem tT_ok : TTok Tryz.prog tT := tyF_ok Tryz.prog
theorem hmO : Tryz.prog.follows .mixedOrders = true := by kernel_rfl
def dM : Nat := (nat_lit 814059371211079723389271279557997617600733088471642825972050030547293579279397840789444952086425940050437871839389968826886624462849966072)
theorem dM_ok : DynOk Tryz.prog dM := dyn_ok 459 (by decide +kernel) (by kernel_rfl)
variable {ρ : Nat → Value}
abbrev KO (ρ : Nat → Value) (fn : Func) (p : Nat) (x : Cc) : Prop := Cc.ok (RR false) Tryz.prog ρ fn.ntmps (atN (bd fn) p) x
abbrev HO (ρ : Nat → Value) (fn : Func) (l : List (Nat × Cc)) : Prop := HkOk (RR false) Tryz.prog ρ fn.ntmps (bd fn) l
structure Bk (ρ : Nat → Value) (fn : Func) where
  p : Nat
  x : Cc
  h : KO ρ fn p x
def bk {fn : Func} {p : Nat} {x : Cc} (h : KO ρ fn p x) : Bk ρ fn := ⟨p, x, h⟩
def dd {fn : Func} (p : Nat) : Bk ρ fn := ⟨p, ccNo, ccNo_ok⟩
def hkOf {fn : Func} : List (Bk ρ fn) → List (Nat × Cc)
  | [] => []
  | b :: l => (b.p, b.x) :: hkOf l
theorem hkOf_ok {fn : Func} : ∀ l : List (Bk ρ fn), HO ρ fn (hkOf l)
  | [] => trivial
  | b :: l => ⟨b.h, hkOf_ok l⟩
theorem tl {fn : Func} {F : FsT} (q : QQ ρ) (hF : FTok Tryz.prog ρ F) (l : List (Bk ρ fn)) {p : Nat} {x : Cc} (ins : List Nat) (o : Ou) (h1 : Nat.ble 1 p = true := by rfl)
    (he : (fun ch F' h k => (ccHk tT F fn.ntmps false (hkOf l) p (atN (bd fn) p)).run ch (mask ins F') h (wrapO o k)) = x.run := by kernel_rfl) : KO ρ fn p x :=
  cut_ok (ccHk_ok hmO q tT_ok hF (hkOf_ok l) _ _ (ble_true h1) rfl) ins o he
theorem lp {fn : Func} {F : FsT} (q : QQ ρ) (hF : FTok Tryz.prog ρ F) (n : Nat) (l : List (Bk ρ fn)) {p : Nat} {x : Nat → Cc} (ins : List Nat) (o : Ou) (h1 : Nat.ble 1 p = true := by rfl)
    (hl : atN (bd fn) p = .loop (atN (bd fn) (Nat.mul 2 p)) := by kernel_rfl) (h0 : ∀ ch F h k, (x 0).run ch F h k = false := by intros; rfl)
    (he : ∀ n, (fun ch F' h k => (ccHk tT F fn.ntmps false (hkOf l) (Nat.mul 2 p) (atN (bd fn) (Nat.mul 2 p))).run ch (mask ins F') h (loopX (x n) o ch k)) = (x (n + 1)).run := by intros; kernel_rfl) : KO ρ fn p (x n) := by
  unfold KO
  rw [hl]
  exact loop_ok (ccHk_ok hmO q tT_ok hF (hkOf_ok l) _ _ (by have := ble_true h1; show 1 ≤ 2 * p; omega) rfl) x ins o h0 he n
theorem lf {fn : Func} {F : FsT} (q : QQ ρ) (hF : FTok Tryz.prog ρ F) {p : Nat} {x : Cc} (ins : List Nat) (o : Ou)
    (he : (fun ch F' h k => (ccOf tT F fn.ntmps false (atN (bd fn) p)).run ch (mask ins F') h (wrapO o k)) = x.run := by kernel_rfl) : KO ρ fn p x :=
  cut_ok (ccOf_ok hmO q tT_ok hF _) ins o he
abbrev FO (ρ : Nat → Value) (f : Nat) (fc : Fc) : Prop := Fc.ok Tryz.prog ρ f fc
theorem fk {f : Nat} {fn : Func} {F : FsT} (q : QQ ρ) (hF : FTok Tryz.prog ρ F) (l : List (Bk ρ fn)) (hf : Tryz.prog.funcs[f]? = some fn) {fc : Fc}
    (he : ∀ ch la hp k, fc.run ch la hp k = true → fnR (ccHk tT F fn.ntmps false (hkOf l) 1 (bd fn)) (rsOf tT fn.results.toList) ch la hp k = true) (hb : fn.body = some (bd fn) := by kernel_rfl) : FO ρ f fc := fun ch la args g hp w k hch e hv hr =>
  fnR_ok hf hb ((ccHk_ok hmO q tT_ok hF (hkOf_ok l) (bd fn) 1 (Nat.le_refl _) rfl).weaken fun r hr _ => hr) (rsOf_ok tT_ok) ch la args g hp w k hch (he ch la hp k e) hv hr
abbrev fe (l : List (Nat × Fc)) : FsT := feOf Tryz.prog dM l
abbrev FU (ρ : Nat → Value) (F : FsT) : Prop := FTok Tryz.prog ρ F
theorem fo {l : List (Nat × Fc)} (h : TabOk Tryz.prog ρ l) : FU ρ (fe l) := feOf_ok dM_ok h
inductive FcT where
  | leaf (f : Nat) (c : Fc)
  | node (m : Nat) (l r : FcT)
def FcT.lf (f n : Nat) (c : Fc) : Fc := Bool.rec (motive := fun _ => Fc) fcNo c (Nat.beq f n)
def FcT.nd (f m : Nat) (_ _ : FcT) (x y : Fc) : Fc := Bool.rec (motive := fun _ => Fc) y x (Nat.ble f m)
def FcT.get (t : FcT) (f : Nat) : Fc := FcT.rec (motive := fun _ => Fc) (FcT.lf f) (FcT.nd f) t
def FcT.Ok (P : Program) (ρ : Nat → Value) : FcT → Prop
  | .leaf f c => Fc.ok P ρ f c
  | .node _ l r => l.Ok P ρ ∧ r.Ok P ρ
theorem FcT.get_ok {P : Program} {f : Nat} : ∀ {t : FcT}, t.Ok P ρ → Fc.ok P ρ f (t.get f)
  | .leaf n c, h => by
    show Fc.ok P ρ f (Bool.rec (motive := fun _ => Fc) fcNo c (Nat.beq f n))
    cases hb : Nat.beq f n with
    | true => rw [beq_true hb]; exact h
    | false => exact fun ch la args g h w c _ e => Bool.noConfusion (show false = true from e)
  | .node m l r, h => by
    show Fc.ok P ρ f (Bool.rec (motive := fun _ => Fc) (r.get f) (l.get f) (Nat.ble f m))
    cases Nat.ble f m with
    | true => exact FcT.get_ok h.1
    | false => exact FcT.get_ok h.2
def F0 : FsT := feOf Tryz.prog dM []
theorem F0_ok (q : QQ ρ) : FTok Tryz.prog ρ F0 := feOf_ok dM_ok trivial
def chT (tab : Nat → Fc) (n : Nat) : CH := callF ⟨ylR (fun N c => ccOf tT F0 N true c)⟩ tab n
theorem chT_ok (q : QQ ρ) {tab : Nat → Fc} (ht : ∀ f, Fc.ok Tryz.prog ρ f (tab f)) (n : Nat) : CHok Tryz.prog ρ (chT tab n) :=
  callF_ok (ylR_ok fun N c => (ccOf_ok hmO q tT_ok (F0_ok q) c).weaken fun r _ h => by cases h) ht n
theorem sh_true (q : QQ ρ) {tab : Nat → Fc} (ht : ∀ f, Fc.ok Tryz.prog ρ f (tab f)) {n f : Nat} {fc : Fc} (hf : Fc.ok Tryz.prog ρ f fc) {la : List AV} {args : Array Value} {w : World} (e : fc.run (chT tab n) la hp0 isT = true)
    (hv : ∀ g, VRs ρ g la args.toList) : Calls Tryz.prog f args w fun e w' => e = .returned (.bool true) ∧ w'.os = w.os ∧ w'.tape = w.tape ∧ w'.output = w.output ∧ w.heap.size ≤ w'.heap.size ∧ ∀ b, b < w.heap.size → w'.heap[b]? = w.heap[b]? := by
  let g0 : G := ⟨fun _ => none, fun _ => 0, fun _ => 0, fun _ => #[]⟩
  have hr : HR ρ g0 hp0 w := ⟨fun l b c h => (by cases h), fun l l' b c c' h => (by cases h), fun l b c h => (by cases h), fun l p h => (by cases h)⟩
  refine Calls.mono (hf _ la args g0 hp0 w isT (chT_ok q ht n) e (hv g0) hr) fun e' w' ⟨v, he, a, g', h', s, hva, hc⟩ => ?_
  rcases AV.boolK_true (v := a) hc with ⟨h1, _⟩ | ⟨_, h1⟩
  · subst h1
    have := hva.inv_bool
    subst this
    exact ⟨he, s.os, s.tape, s.output, s.size, fun b hb => (s.fr b hb fun l c h => by cases h).1⟩
  · cases h1
end
end Ev
end Go.Proofs.YticoibkgeejkoaaGreatDoor
namespace Go.Proofs.YticoibkgeejkoaaGreatDoor
namespace Ev
noncomputable section
abbrev N0 : Nat := nat_lit 0
abbrev N1 : Nat := nat_lit 1
abbrev N2 : Nat := nat_lit 2
abbrev N3 : Nat := nat_lit 3
abbrev N4 : Nat := nat_lit 4
abbrev N5 : Nat := nat_lit 5
abbrev N6 : Nat := nat_lit 6
abbrev N7 : Nat := nat_lit 7
abbrev N8 : Nat := nat_lit 8
abbrev N9 : Nat := nat_lit 9
abbrev N10 : Nat := nat_lit 10
abbrev N11 : Nat := nat_lit 11
abbrev N12 : Nat := nat_lit 12
abbrev N13 : Nat := nat_lit 13
abbrev N14 : Nat := nat_lit 14
abbrev N15 : Nat := nat_lit 15
abbrev N16 : Nat := nat_lit 16
abbrev N17 : Nat := nat_lit 17
abbrev N18 : Nat := nat_lit 18
abbrev N19 : Nat := nat_lit 19
abbrev N21 : Nat := nat_lit 21
abbrev N23 : Nat := nat_lit 23
abbrev N24 : Nat := nat_lit 24
abbrev N25 : Nat := nat_lit 25
abbrev N26 : Nat := nat_lit 26
abbrev N27 : Nat := nat_lit 27
abbrev N28 : Nat := nat_lit 28
abbrev N29 : Nat := nat_lit 29
abbrev N30 : Nat := nat_lit 30
abbrev N31 : Nat := nat_lit 31
abbrev N32 : Nat := nat_lit 32
abbrev N40 : Nat := nat_lit 40
abbrev N41 : Nat := nat_lit 41
abbrev N43 : Nat := nat_lit 43
abbrev N48 : Nat := nat_lit 48
abbrev N49 : Nat := nat_lit 49
abbrev N50 : Nat := nat_lit 50
abbrev N51 : Nat := nat_lit 51
abbrev N53 : Nat := nat_lit 53
abbrev N54 : Nat := nat_lit 54
abbrev N56 : Nat := nat_lit 56
abbrev N57 : Nat := nat_lit 57
abbrev N58 : Nat := nat_lit 58
abbrev N59 : Nat := nat_lit 59
abbrev N60 : Nat := nat_lit 60
abbrev N62 : Nat := nat_lit 62
abbrev N63 : Nat := nat_lit 63
abbrev N64 : Nat := nat_lit 64
abbrev N65 : Nat := nat_lit 65
abbrev N66 : Nat := nat_lit 66
abbrev N67 : Nat := nat_lit 67
abbrev N68 : Nat := nat_lit 68
abbrev N69 : Nat := nat_lit 69
abbrev N73 : Nat := nat_lit 73
abbrev N81 : Nat := nat_lit 81
abbrev N82 : Nat := nat_lit 82
abbrev N83 : Nat := nat_lit 83
abbrev N84 : Nat := nat_lit 84
abbrev N85 : Nat := nat_lit 85
abbrev N86 : Nat := nat_lit 86
abbrev N87 : Nat := nat_lit 87
abbrev N88 : Nat := nat_lit 88
abbrev N89 : Nat := nat_lit 89
abbrev N90 : Nat := nat_lit 90
abbrev N91 : Nat := nat_lit 91
abbrev N95 : Nat := nat_lit 95
abbrev N96 : Nat := nat_lit 96
abbrev N97 : Nat := nat_lit 97
abbrev N102 : Nat := nat_lit 102
abbrev N103 : Nat := nat_lit 103
abbrev N105 : Nat := nat_lit 105
abbrev N106 : Nat := nat_lit 106
abbrev N107 : Nat := nat_lit 107
abbrev N110 : Nat := nat_lit 110
abbrev N111 : Nat := nat_lit 111
abbrev N112 : Nat := nat_lit 112
abbrev N113 : Nat := nat_lit 113
abbrev N114 : Nat := nat_lit 114
abbrev N117 : Nat := nat_lit 117
abbrev N118 : Nat := nat_lit 118
abbrev N119 : Nat := nat_lit 119
abbrev N121 : Nat := nat_lit 121
abbrev N122 : Nat := nat_lit 122
abbrev N125 : Nat := nat_lit 125
abbrev N126 : Nat := nat_lit 126
abbrev N127 : Nat := nat_lit 127
abbrev N128 : Nat := nat_lit 128
abbrev N130 : Nat := nat_lit 130
abbrev N131 : Nat := nat_lit 131
abbrev N144 : Nat := nat_lit 144
abbrev N168 : Nat := nat_lit 168
abbrev N174 : Nat := nat_lit 174
abbrev N184 : Nat := nat_lit 184
abbrev N206 : Nat := nat_lit 206
abbrev N211 : Nat := nat_lit 211
abbrev N213 : Nat := nat_lit 213
abbrev N223 : Nat := nat_lit 223
abbrev N225 : Nat := nat_lit 225
abbrev N231 : Nat := nat_lit 231
abbrev N233 : Nat := nat_lit 233
abbrev N235 : Nat := nat_lit 235
abbrev N238 : Nat := nat_lit 238
abbrev N239 : Nat := nat_lit 239
abbrev N242 : Nat := nat_lit 242
abbrev N250 : Nat := nat_lit 250
abbrev N255 : Nat := nat_lit 255
abbrev N257 : Nat := nat_lit 257
abbrev N260 : Nat := nat_lit 260
abbrev N274 : Nat := nat_lit 274
abbrev N275 : Nat := nat_lit 275
abbrev N276 : Nat := nat_lit 276
abbrev N277 : Nat := nat_lit 277
abbrev N278 : Nat := nat_lit 278
abbrev N284 : Nat := nat_lit 284
abbrev N285 : Nat := nat_lit 285
abbrev N293 : Nat := nat_lit 293
abbrev N299 : Nat := nat_lit 299
abbrev N301 : Nat := nat_lit 301
abbrev N346 : Nat := nat_lit 346
abbrev N361 : Nat := nat_lit 361
abbrev N362 : Nat := nat_lit 362
abbrev N373 : Nat := nat_lit 373
abbrev N398 : Nat := nat_lit 398
abbrev N415 : Nat := nat_lit 415
abbrev N423 : Nat := nat_lit 423
abbrev N430 : Nat := nat_lit 430
abbrev N446 : Nat := nat_lit 446
abbrev N453 : Nat := nat_lit 453
abbrev N462 : Nat := nat_lit 462
abbrev N466 : Nat := nat_lit 466
abbrev N467 : Nat := nat_lit 467
abbrev N470 : Nat := nat_lit 470
abbrev N489 : Nat := nat_lit 489
abbrev N490 : Nat := nat_lit 490
abbrev N498 : Nat := nat_lit 498
abbrev N502 : Nat := nat_lit 502
abbrev N506 : Nat := nat_lit 506
abbrev N508 : Nat := nat_lit 508
abbrev N510 : Nat := nat_lit 510
abbrev N702 : Nat := nat_lit 702
abbrev N830 : Nat := nat_lit 830
abbrev N831 : Nat := nat_lit 831
abbrev N850 : Nat := nat_lit 850
abbrev N854 : Nat := nat_lit 854
abbrev N895 : Nat := nat_lit 895
abbrev N897 : Nat := nat_lit 897
abbrev N907 : Nat := nat_lit 907
abbrev N927 : Nat := nat_lit 927
abbrev N935 : Nat := nat_lit 935
abbrev N938 : Nat := nat_lit 938
abbrev N942 : Nat := nat_lit 942
abbrev N958 : Nat := nat_lit 958
abbrev N974 : Nat := nat_lit 974
abbrev N979 : Nat := nat_lit 979
abbrev N993 : Nat := nat_lit 993
abbrev N1011 : Nat := nat_lit 1011
abbrev N1018 : Nat := nat_lit 1018
abbrev N1020 : Nat := nat_lit 1020
abbrev N1023 : Nat := nat_lit 1023
abbrev N1663 : Nat := nat_lit 1663
abbrev N1682 : Nat := nat_lit 1682
abbrev N1683 : Nat := nat_lit 1683
abbrev N1726 : Nat := nat_lit 1726
abbrev N1727 : Nat := nat_lit 1727
abbrev N1854 : Nat := nat_lit 1854
abbrev N1887 : Nat := nat_lit 1887
abbrev N1906 : Nat := nat_lit 1906
abbrev N1966 : Nat := nat_lit 1966
abbrev N1998 : Nat := nat_lit 1998
abbrev N2002 : Nat := nat_lit 2002
abbrev N2003 : Nat := nat_lit 2003
abbrev N2025 : Nat := nat_lit 2025
abbrev N2030 : Nat := nat_lit 2030
abbrev N2033 : Nat := nat_lit 2033
abbrev N2034 : Nat := nat_lit 2034
abbrev N2041 : Nat := nat_lit 2041
abbrev N2042 : Nat := nat_lit 2042
abbrev N2044 : Nat := nat_lit 2044
abbrev N2047 : Nat := nat_lit 2047
abbrev N3326 : Nat := nat_lit 3326
abbrev N3366 : Nat := nat_lit 3366
abbrev N3379 : Nat := nat_lit 3379
abbrev N3583 : Nat := nat_lit 3583
abbrev N3711 : Nat := nat_lit 3711
abbrev N3730 : Nat := nat_lit 3730
abbrev N3774 : Nat := nat_lit 3774
abbrev N3775 : Nat := nat_lit 3775
abbrev N3838 : Nat := nat_lit 3838
abbrev N3858 : Nat := nat_lit 3858
abbrev N3863 : Nat := nat_lit 3863
abbrev N3913 : Nat := nat_lit 3913
abbrev N3935 : Nat := nat_lit 3935
abbrev N4051 : Nat := nat_lit 4051
abbrev N4090 : Nat := nat_lit 4090
abbrev N4095 : Nat := nat_lit 4095
abbrev N6734 : Nat := nat_lit 6734
abbrev N6758 : Nat := nat_lit 6758
abbrev N7169 : Nat := nat_lit 7169
abbrev N7258 : Nat := nat_lit 7258
abbrev N7422 : Nat := nat_lit 7422
abbrev N7462 : Nat := nat_lit 7462
abbrev N7463 : Nat := nat_lit 7463
abbrev N7466 : Nat := nat_lit 7466
abbrev N7551 : Nat := nat_lit 7551
abbrev N7727 : Nat := nat_lit 7727
abbrev N7754 : Nat := nat_lit 7754
abbrev N7827 : Nat := nat_lit 7827
abbrev N7870 : Nat := nat_lit 7870
abbrev N7871 : Nat := nat_lit 7871
abbrev N7946 : Nat := nat_lit 7946
abbrev N8009 : Nat := nat_lit 8009
abbrev N8106 : Nat := nat_lit 8106
abbrev N8110 : Nat := nat_lit 8110
abbrev N8133 : Nat := nat_lit 8133
abbrev N8147 : Nat := nat_lit 8147
abbrev N8169 : Nat := nat_lit 8169
abbrev N8177 : Nat := nat_lit 8177
abbrev N8186 : Nat := nat_lit 8186
abbrev N8191 : Nat := nat_lit 8191
abbrev N10582 : Nat := nat_lit 10582
abbrev N11263 : Nat := nat_lit 11263
abbrev N13310 : Nat := nat_lit 13310
abbrev N13518 : Nat := nat_lit 13518
abbrev N14335 : Nat := nat_lit 14335
abbrev N14847 : Nat := nat_lit 14847
abbrev N14922 : Nat := nat_lit 14922
abbrev N14926 : Nat := nat_lit 14926
abbrev N14927 : Nat := nat_lit 14927
abbrev N14950 : Nat := nat_lit 14950
abbrev N14951 : Nat := nat_lit 14951
abbrev N15102 : Nat := nat_lit 15102
abbrev N15358 : Nat := nat_lit 15358
abbrev N15514 : Nat := nat_lit 15514
abbrev N15654 : Nat := nat_lit 15654
abbrev N15655 : Nat := nat_lit 15655
abbrev N16018 : Nat := nat_lit 16018
abbrev N16267 : Nat := nat_lit 16267
abbrev N16378 : Nat := nat_lit 16378
abbrev N26922 : Nat := nat_lit 26922
abbrev N29694 : Nat := nat_lit 29694
abbrev N29850 : Nat := nat_lit 29850
abbrev N29855 : Nat := nat_lit 29855
abbrev N29898 : Nat := nat_lit 29898
abbrev N29902 : Nat := nat_lit 29902
abbrev N29903 : Nat := nat_lit 29903
abbrev N31034 : Nat := nat_lit 31034
abbrev N31306 : Nat := nat_lit 31306
abbrev N31310 : Nat := nat_lit 31310
abbrev N31311 : Nat := nat_lit 31311
abbrev N31334 : Nat := nat_lit 31334
abbrev N31335 : Nat := nat_lit 31335
abbrev N32038 : Nat := nat_lit 32038
abbrev N32402 : Nat := nat_lit 32402
abbrev N32403 : Nat := nat_lit 32403
abbrev N32723 : Nat := nat_lit 32723
abbrev N32762 : Nat := nat_lit 32762
abbrev N58067 : Nat := nat_lit 58067
abbrev N59391 : Nat := nat_lit 59391
abbrev N59689 : Nat := nat_lit 59689
abbrev N59699 : Nat := nat_lit 59699
abbrev N59805 : Nat := nat_lit 59805
abbrev N60414 : Nat := nat_lit 60414
abbrev N62057 : Nat := nat_lit 62057
abbrev N62074 : Nat := nat_lit 62074
abbrev N62622 : Nat := nat_lit 62622
abbrev N62670 : Nat := nat_lit 62670
abbrev N62671 : Nat := nat_lit 62671
abbrev N63571 : Nat := nat_lit 63571
abbrev N64102 : Nat := nat_lit 64102
abbrev N64103 : Nat := nat_lit 64103
abbrev N64806 : Nat := nat_lit 64806
abbrev N64819 : Nat := nat_lit 64819
abbrev N65353 : Nat := nat_lit 65353
abbrev N108135 : Nat := nat_lit 108135
abbrev N110590 : Nat := nat_lit 110590
abbrev N114686 : Nat := nat_lit 114686
abbrev N118782 : Nat := nat_lit 118782
abbrev N119610 : Nat := nat_lit 119610
abbrev N119614 : Nat := nat_lit 119614
abbrev N124137 : Nat := nat_lit 124137
abbrev N125241 : Nat := nat_lit 125241
abbrev N125950 : Nat := nat_lit 125950
abbrev N128154 : Nat := nat_lit 128154
abbrev N128206 : Nat := nat_lit 128206
abbrev N129609 : Nat := nat_lit 129609
abbrev N129790 : Nat := nat_lit 129790
abbrev N130355 : Nat := nat_lit 130355
abbrev N130838 : Nat := nat_lit 130838
abbrev N131071 : Nat := nat_lit 131071
abbrev N229375 : Nat := nat_lit 229375
abbrev N241646 : Nat := nat_lit 241646
abbrev N250686 : Nat := nat_lit 250686
abbrev N251894 : Nat := nat_lit 251894
abbrev N256410 : Nat := nat_lit 256410
abbrev N259218 : Nat := nat_lit 259218
abbrev N259219 : Nat := nat_lit 259219
abbrev N259230 : Nat := nat_lit 259230
abbrev N260710 : Nat := nat_lit 260710
abbrev N261414 : Nat := nat_lit 261414
abbrev N262143 : Nat := nat_lit 262143
abbrev N430782 : Nat := nat_lit 430782
abbrev N442366 : Nat := nat_lit 442366
abbrev N458750 : Nat := nat_lit 458750
abbrev N475134 : Nat := nat_lit 475134
abbrev N477478 : Nat := nat_lit 477478
abbrev N501363 : Nat := nat_lit 501363
abbrev N501374 : Nat := nat_lit 501374
abbrev N518451 : Nat := nat_lit 518451
abbrev N518554 : Nat := nat_lit 518554
abbrev N518558 : Nat := nat_lit 518558
abbrev N521417 : Nat := nat_lit 521417
abbrev N521422 : Nat := nat_lit 521422
abbrev N522855 : Nat := nat_lit 522855
abbrev N523353 : Nat := nat_lit 523353
abbrev N524282 : Nat := nat_lit 524282
abbrev N865075 : Nat := nat_lit 865075
abbrev N917503 : Nat := nat_lit 917503
abbrev N956862 : Nat := nat_lit 956862
abbrev N956883 : Nat := nat_lit 956883
abbrev N1000000 : Nat := nat_lit 1000000
abbrev I0 : AV := AV.i64 (nat_lit 9223372036854775808)
abbrev I1 : AV := AV.i64 (nat_lit 9223372036854775809)
abbrev I2 : AV := AV.i64 (nat_lit 9223372036854775810)
abbrev I3 : AV := AV.i64 (nat_lit 9223372036854775811)
abbrev I4 : AV := AV.i64 (nat_lit 9223372036854775812)
abbrev I5 : AV := AV.i64 (nat_lit 9223372036854775813)
abbrev I6 : AV := AV.i64 (nat_lit 9223372036854775814)
abbrev I7 : AV := AV.i64 (nat_lit 9223372036854775815)
abbrev I8 : AV := AV.i64 (nat_lit 9223372036854775816)
abbrev I9 : AV := AV.i64 (nat_lit 9223372036854775817)
abbrev I10 : AV := AV.i64 (nat_lit 9223372036854775818)
abbrev I11 : AV := AV.i64 (nat_lit 9223372036854775819)
abbrev I12 : AV := AV.i64 (nat_lit 9223372036854775820)
abbrev I13 : AV := AV.i64 (nat_lit 9223372036854775821)
abbrev I16 : AV := AV.i64 (nat_lit 9223372036854775824)
abbrev I18 : AV := AV.i64 (nat_lit 9223372036854775826)
abbrev I19 : AV := AV.i64 (nat_lit 9223372036854775827)
abbrev I20 : AV := AV.i64 (nat_lit 9223372036854775828)
abbrev I21 : AV := AV.i64 (nat_lit 9223372036854775829)
abbrev I22 : AV := AV.i64 (nat_lit 9223372036854775830)
abbrev I23 : AV := AV.i64 (nat_lit 9223372036854775831)
abbrev I24 : AV := AV.i64 (nat_lit 9223372036854775832)
abbrev I25 : AV := AV.i64 (nat_lit 9223372036854775833)
abbrev I26 : AV := AV.i64 (nat_lit 9223372036854775834)
abbrev I27 : AV := AV.i64 (nat_lit 9223372036854775835)
abbrev I28 : AV := AV.i64 (nat_lit 9223372036854775836)
abbrev I29 : AV := AV.i64 (nat_lit 9223372036854775837)
abbrev I30 : AV := AV.i64 (nat_lit 9223372036854775838)
abbrev I31 : AV := AV.i64 (nat_lit 9223372036854775839)
abbrev I32 : AV := AV.i64 (nat_lit 9223372036854775840)
abbrev I33 : AV := AV.i64 (nat_lit 9223372036854775841)
abbrev I34 : AV := AV.i64 (nat_lit 9223372036854775842)
abbrev I35 : AV := AV.i64 (nat_lit 9223372036854775843)
abbrev I36 : AV := AV.i64 (nat_lit 9223372036854775844)
abbrev I37 : AV := AV.i64 (nat_lit 9223372036854775845)
abbrev I38 : AV := AV.i64 (nat_lit 9223372036854775846)
abbrev I39 : AV := AV.i64 (nat_lit 9223372036854775847)
abbrev I40 : AV := AV.i64 (nat_lit 9223372036854775848)
abbrev I41 : AV := AV.i64 (nat_lit 9223372036854775849)
abbrev I42 : AV := AV.i64 (nat_lit 9223372036854775850)
abbrev I43 : AV := AV.i64 (nat_lit 9223372036854775851)
abbrev I44 : AV := AV.i64 (nat_lit 9223372036854775852)
abbrev I45 : AV := AV.i64 (nat_lit 9223372036854775853)
abbrev I46 : AV := AV.i64 (nat_lit 9223372036854775854)
abbrev I57 : AV := AV.i64 (nat_lit 9223372036854775865)
abbrev I58 : AV := AV.i64 (nat_lit 9223372036854775866)
abbrev I60 : AV := AV.i64 (nat_lit 9223372036854775868)
abbrev I64 : AV := AV.i64 (nat_lit 9223372036854775872)
abbrev I77 : AV := AV.i64 (nat_lit 9223372036854775885)
abbrev I96 : AV := AV.i64 (nat_lit 9223372036854775904)
abbrev I255 : AV := AV.i64 (nat_lit 9223372036854776063)
abbrev I256 : AV := AV.i64 (nat_lit 9223372036854776064)
abbrev I257 : AV := AV.i64 (nat_lit 9223372036854776065)
abbrev I264 : AV := AV.i64 (nat_lit 9223372036854776072)
abbrev I600 : AV := AV.i64 (nat_lit 9223372036854776408)
abbrev I1024 : AV := AV.i64 (nat_lit 9223372036854776832)
abbrev I4096 : AV := AV.i64 (nat_lit 9223372036854779904)
abbrev I65536 : AV := AV.i64 (nat_lit 9223372036854841344)
abbrev J1 : AV := AV.i64 (nat_lit 9223372036854775807)
end
end Ev
end Go.Proofs.YticoibkgeejkoaaGreatDoor
namespace Go.Proofs.YticoibkgeejkoaaGreatDoor
open Go.RowKit
set_option linter.unusedVariables false
set_option linter.unusedSimpArgs false
def In64 (n : Int) : Prop := -9223372036854775808 ≤ n ∧ n ≤ 9223372036854775807
theorem tmod_cases (a n : Int) (h0 : a < 0) (hn : 1 ≤ n) : (a.tmod n = 0 ∧ a % n = 0) ∨ (a.tmod n < 0 ∧ a.tmod n + n = a % n) := by
  have hr := Int.emod_nonneg a (show n ≠ 0 by omega)
  have hlt := Int.emod_lt_of_pos a (show 0 < n by omega)
  have h := Int.tmod_eq_emod (a := a) (b := n)
  by_cases hd : n ∣ a
  · left
    have := Int.emod_eq_zero_of_dvd hd
    rw [if_pos (.inr hd)] at h
    omega
  · right
    rw [if_neg (by rintro (h | h); omega; exact hd h)] at h
    omega
structure Hid (p : Prop) : Prop where
  out : p
set_option maxHeartbeats 400000 in
theorem within_any (a n : Int) (w : World) (ha : In64 a) (hn : 1 ≤ n) (hm : n ≤ 1048576) : Calls Tryz.prog 5 #[.int .i64 a, .int .i64 n] w fun e w' => e = .returned (.int .i64 (a % n)) ∧ w' = w := by
  obtain ⟨h1, h2⟩ := ha
  have hr := Int.emod_nonneg a (show n ≠ 0 by omega)
  have hlt := Int.emod_lt_of_pos a (show 0 < n by omega)
  have hne : (n == 0) = false := by simp; omega
  by_cases h0 : 0 ≤ a
  · go_enter Tryz.func5, Tryz.ntmps5
    go_wp2
    go_ret
    exact ⟨rfl, rfl⟩
  · rcases tmod_cases a n (by omega) hn with ⟨h3, h4⟩ | ⟨h3, h4⟩
    · have H3 : Hid _ := ⟨h3⟩
      have H4 : Hid _ := ⟨h4⟩
      have h5 : 0 ≤ a.tmod n := by omega
      have h6 : a.tmod n ≤ 0 := by omega
      clear h3 h4
      go_enter Tryz.func5, Tryz.ntmps5
      go_wp2
      go_ret
      exact ⟨by rw [H4.out, ← H3.out]; rfl, rfl⟩
    · have H4 : Hid _ := ⟨h4⟩
      have h5 : 0 ≤ a.tmod n + n := by omega
      have h6 : a.tmod n + n ≤ n := by omega
      clear h4
      go_enter Tryz.func5, Tryz.ntmps5
      go_wp2
      go_ret
      exact ⟨by rw [← H4.out]; rfl, rfl⟩
end Go.Proofs.YticoibkgeejkoaaGreatDoor
