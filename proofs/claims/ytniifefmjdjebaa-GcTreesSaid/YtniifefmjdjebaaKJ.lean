/- Walks: made. · Walks: roots. · Walks: the document's Reach. · Walks: the document's Reach. · Walks: the document's Live. -/
import Derived.Test.YtniifefmjdjebaaKI
import Derived.Test.YtniifefmjdjebaaKF
import Derived.Lib.MinMax
namespace Go.Proofs.Ytniifefmjdjebaa
open Go.RowKit
set_option linter.unusedVariables false
set_option linter.unusedSimpArgs false
/-- The two arenas, and what was there in wb: it stands, but for the arenas' own blocks B. -/
structure T2 (w0 wb : World) (B : Nat → Prop) (w : World) (p : Nat) (S : Nat → Prop) (s : AS) (q : Nat) (R : Nat → Prop) (t : AS) : Prop where
  two : Two w0 w p S s q R t
  fb : Fr B wb w
  sub : ∀ k, S k ∨ R k → B k ∨ wb.heap.size ≤ k
section
variable {w0 wb w w' : World} {B : Nat → Prop} {p : Nat} {S : Nat → Prop} {s s' : AS} {q : Nat} {R : Nat → Prop} {t t' : AS}
theorem T2.start (h : Two w0 w p S s q R t) : T2 w0 w (fun k => S k ∨ R k) w p S s q R t := ⟨h, Fr.refl _ _, fun _ h => .inl h⟩
theorem T2.rebase (h : T2 w0 wb B w p S s q R t) : T2 w0 w (fun k => S k ∨ R k) w p S s q R t := T2.start h.two
theorem T2.kept (h : T2 w0 wb B w p S s q R t) (hf : Fr (fun _ => False) w w') : T2 w0 wb B w' p S s q R t :=
  ⟨h.two.kept hf, h.fb.trans hf (fun _ h => h) (fun _ _ h => h.elim), h.sub⟩
theorem T2.drewN (h : T2 w0 wb B w p S s q R t) (n : Nat) : T2 w0 wb B (w.drewN n) p S s q R t := h.kept (Fr.drewN _ w n)
theorem T2.turnA (h : T2 w0 wb B w p S s q R t) (ht : Turned w w' p S s') : ∃ S', T2 w0 wb B w' p S' s' q R t := by
  have ht2 := ht
  obtain ⟨S', h1, h2, h3⟩ := ht
  obtain ⟨a, r, ap, fr, newA, newR⟩ := h.two
  refine ⟨S', ⟨h1, r.keep h2 (fun k hr hs => ap k hs hr), fun k hs hr => ?_, fr.trans h2 (fun _ h => h) (fun i hi hs => by have := newA i hs; omega), fun k hs => ?_, newR⟩, h.fb.trans h2 (fun _ h => h) (fun i hi hs => ?_), fun k hk => ?_⟩
  · rcases h3 k hs with h4 | h4
    · exact ap k h4 hr
    · have := r.lt hr; omega
  · rcases h3 k hs with h4 | h4
    · exact newA k h4
    · have := fr.size; omega
  · rcases h.sub i (.inl hs) with h4 | h4
    · exact h4
    · omega
  · rcases hk with hk | hk
    · rcases h3 k hk with h4 | h4
      · exact h.sub k (.inl h4)
      · right; have := h.fb.size; omega
    · exact h.sub k (.inr hk)
theorem T2.turnR (h : T2 w0 wb B w p S s q R t) (ht : TurnedR w w' q R t') : ∃ R', T2 w0 wb B w' p S s q R' t' := by
  obtain ⟨R', h1, h2, h3⟩ := ht
  obtain ⟨a, r, ap, fr, newA, newR⟩ := h.two
  refine ⟨R', ⟨a.keep h2 (fun k hs hr => ap k hs hr), h1, fun k hs hr => ?_, fr.trans h2 (fun _ h => h) (fun i hi hr => by have := newR i hr; omega), newA, fun k hr => ?_⟩, h.fb.trans h2 (fun _ h => h) (fun i hi hr => ?_), fun k hk => ?_⟩
  · rcases h3 k hr with h4 | h4
    · exact ap k hs h4
    · have := a.lt hs; omega
  · rcases h3 k hr with h4 | h4
    · exact newR k h4
    · have := fr.size; omega
  · rcases h.sub i (.inr hr) with h4 | h4
    · exact h4
    · omega
  · rcases hk with hk | hk
    · exact h.sub k (.inl hk)
    · rcases h3 k hk with h4 | h4
      · exact h.sub k (.inr h4)
      · right; have := h.fb.size; omega
/-- A row of wb that is none of the arenas' own. -/
theorem T2.row (h : T2 w0 wb B w p S s q R t) {base e size n : Nat} {v : Value} {xs : List Value} (hr : wb.ownsRow base e size v n xs) (hB : ∀ k, v.ownBlock = some k → ¬ B k) : w.ownsRow base e size v n xs := h.fb.row hr hB
end
/-- An object to be made, as it came in. -/
structure ObjD where
  kd : Int
  va : Option Addr
  vl : Nat
  vc : Nat
  zv : Nat → Int
  ra : Option Addr
  rl : Nat
  rc : Nat
  zr : Nat → Int
structure ObjsIn (w : World) (a : Option Addr) (n : Nat) (o : Nat → ObjD) : Prop where
  small : n ≤ 9223372036854775807
  cells : 0 < n → ∃ b off, a = some ⟨b, off, none⟩ ∧ ∀ i, i < n → w.cell? ⟨b, off + i * 3, none⟩ = some (.int .i64 (o i).kd) ∧ w.cell? ⟨b, off + i * 3 + 1, none⟩ = some (.slice (o i).va (o i).vl (o i).vc) ∧ w.cell? ⟨b, off + i * 3 + 2, none⟩ = some (.slice (o i).ra (o i).rl (o i).rc)
  rows : ∀ i, i < n → I64 (o i).kd ∧ IntsIn w (o i).va (o i).vl (o i).zv ∧ IntsIn w (o i).ra (o i).rl (o i).zr
theorem ObjsIn.keep {w w' : World} {a : Option Addr} {n : Nat} {o : Nat → ObjD} (h : ObjsIn w a n o) (hf : Fr (fun _ => False) w w') : ObjsIn w' a n o :=
  ⟨h.small, fun h0 => by
    obtain ⟨b, off, e, hc⟩ := h.cells h0
    exact ⟨b, off, e, fun i hi => let ⟨h1, h2, h3⟩ := hc i hi; ⟨hf.cell h1 id, hf.cell h2 id, hf.cell h3 id⟩⟩, fun i hi => let ⟨h1, h2, h3⟩ := h.rows i hi; ⟨h1, h2.keep hf, h3.keep hf⟩⟩
theorem ObjsIn.at {w : World} {b off n : Nat} {o : Nat → ObjD} (h : ObjsIn w (some ⟨b, off, none⟩) n o) {i : Nat} (hi : i < n) : w.cell? ⟨b, off + i * 3, none⟩ = some (.int .i64 (o i).kd) ∧ w.cell? ⟨b, off + i * 3 + 1, none⟩ = some (.slice (o i).va (o i).vl (o i).vc) ∧ w.cell? ⟨b, off + i * 3 + 2, none⟩ = some (.slice (o i).ra (o i).rl (o i).rc) := by
  obtain ⟨b', o', e, hc⟩ := h.cells (by omega)
  simp only [Option.some.injEq, Addr.mk.injEq] at e
  obtain ⟨rfl, rfl, _⟩ := e
  exact hc i hi
def madeO (o : Nat → ObjD) : Nat → AS
  | 0 => AS.new 16384
  | k + 1 => (madeO o k).make (o k).kd (min (o k).vl 12 : Nat)
theorem madeO_len (o : Nat → ObjD) : ∀ k, (madeO o k).used.length ≤ k
  | 0 => Nat.le_refl _
  | k + 1 => by
    have ih := madeO_len o k
    show (AS.make _ _ _).used.length ≤ _
    unfold AS.make
    split
    · simp; omega
    · omega
/-- Does a slot hold an object's number, among the first j that are told? -/
def refsTo (o : ObjD) (k : Nat) (j : Nat) : Bool := (List.range j).any fun i => o.zr i == k
/-- What is put into a slot. -/
def slotV (at_ : List Int) (o : ObjD) (k : Nat) : Int := if refsTo o k o.rl = true ∧ 1 ≤ o.zv k ∧ o.zv k ≤ at_.length then at_[(o.zv k - 1).toNat]?.getD 0 else o.zv k
def putSl (s : AS) (at_ : List Int) (i : Nat) (o : ObjD) : Nat → AS
  | 0 => s
  | k + 1 => (putSl s at_ i o k).put (at_[i]?.getD 0) k (slotV at_ o k)
def putO (s : AS) (at_ : List Int) (o : Nat → ObjD) : Nat → AS
  | 0 => s
  | i + 1 => putSl (putO s at_ o i) at_ i (o i) (min (o i).vl 12)
/-- What 'made' makes. -/
def madeX (n : Nat) (o : Nat → ObjD) : AS :=
  putO (madeO o (min n 40)) (addrs 0 (madeO o (min n 40)).used) o (madeO o (min n 40)).used.length
theorem refsTo_succ (o : ObjD) (k j : Nat) : refsTo o k (j + 1) = (refsTo o k j || (o.zr j == k)) := by
  unfold refsTo; rw [List.range_succ, List.any_append]; simp
theorem refsTo_of (o : ObjD) (k : Nat) {j n : Nat} (hj : j < n) (h : o.zr j = k) : refsTo o k n = true := by
  unfold refsTo; rw [List.any_eq_true]; exact ⟨j, List.mem_range.2 hj, by simpa using h⟩
set_option maxRecDepth 100000 in
set_option maxHeartbeats 4000000 in
theorem made16_any (a1 : Option Addr) (n1 c1 : Nat) (o : Nat → ObjD) (w : World) (h : ObjsIn w a1 n1 o) :
    Calls Try.prog 49 #[.slice a1 n1 c1] w fun e w' => ∃ p S q R, e = .returned (.tuple #[.pointer (some ⟨p, 0, none⟩), .pointer (some ⟨q, 0, none⟩)]) ∧ Two w w' p S (madeX n1 o) q R (madeX n1 o) := by
  have hn := h.small
  have H := Lib.hid h; clear h
  go_enter Try.func49, Try.ntmps49
  go_wp2_with fail
  refine (New_any 16384 _ (by omega) (by omega)).mono ?_
  rintro e w2 ⟨p, S, rfl, q1, q2, q3⟩
  have HA := Lib.hid (And.intro q1 (And.intro q2 q3)); clear q1 q2 q3
  go_wp2_with fail
  refine (refNew_any 16384 _ (by omega) (by omega)).mono ?_
  rintro e w3 ⟨q, R, rfl, q1, q2, q3⟩
  have HT := Lib.hid (show Two w w3 p S (madeO o 0) q R (madeO o 0) from
    ⟨HA.out.1.keep q2 (fun _ _ h => h), q1, fun k hs hr => by have := q3 k hr; have := HA.out.1.lt hs; omega, HA.out.2.1.trans q2 (fun _ h => h) (fun _ _ h => h),
      fun k hk => HA.out.2.2 k hk, fun k hk => Nat.le_trans HA.out.2.1.size (q3 k hk)⟩)
  clear q1 q2 q3
  go_wp2_with fail
  go_loopw [8] (fun i wr => ∃ (k : Nat) (S R : Nat → Prop), k ≤ n1 ∧ k ≤ 40 ∧ i = .int .i64 k ∧ Two w wr p S (madeO o k) q R (madeO o k)) (fun i _ => (40 - intOf i).toNat)
  case atStart => exact ⟨0, S, R, by omega, by omega, rfl, HT.out⟩
  case round =>
    obtain ⟨k, S, R, hk1, hk2, rfl, htwo⟩ := hrel
    have HW := Lib.hid htwo; clear htwo
    by_cases hlt2 : k < n1 ∧ k < 40
    · obtain ⟨hlt, hl2⟩ := hlt2
      · obtain ⟨b, off, rfl, hc⟩ := (H.out.keep HW.out.fr).cells (by omega)
        obtain ⟨f1, f2, f3⟩ := hc k hlt
        obtain ⟨g1, g2, g3⟩ := H.out.rows k hlt
        have Hg := Lib.hid g1
        have hvl := g2.small
        have HM := Lib.hid (show madeO o (k + 1) = (madeO o k).make (o k).kd (min (o k).vl 12 : Nat) from rfl)
        obtain ⟨ok, hok⟩ : ∃ ok, ok = o k := ⟨_, rfl⟩
        have HOk := Lib.hid hok
        rw [← hok] at f1 f2 hvl Hg HM
        obtain ⟨sk, hsk⟩ : ∃ sk, sk = madeO o k := ⟨_, rfl⟩
        rw [← hsk] at HW HM
        have hmn : min (ok.vl : Int) 12 = ((min ok.vl 12 : Nat) : Int) := by omega
        have HMn := Lib.hid hmn
        clear hc f3 g1 g2 g3 hok hsk hmn
        go_wp2_with fail
        refine (Make_any p ok.kd _ S sk _ HW.out.a Hg.out).mono ?_
        rw [HMn.out]
        obtain ⟨mn, hmn⟩ : ∃ mn, mn = min ok.vl 12 := ⟨_, rfl⟩
        rw [← hmn] at HM HMn ⊢
        clear hmn
        obtain ⟨z1, hz1⟩ : ∃ z, z = sk.makeA (mn : Int) := ⟨_, rfl⟩
        obtain ⟨z2, hz2⟩ : ∃ z, z = sk.makeE (mn : Int) := ⟨_, rfl⟩
        have HZ := Lib.hid (And.intro hz1 hz2)
        rw [← hz1, ← hz2]
        clear hz1 hz2
        rintro e w4 ⟨rfl, q1⟩
        obtain ⟨S4, h4⟩ := HW.out.turnA q1
        have H4 := Lib.hid h4
        have f4 := ((H.out.keep h4.fr).at hlt).1
        rw [← HOk.out] at f4
        clear q1 h4 f1 f2
        go_wp2_with fail
        refine (refMake_any q ok.kd _ R sk _ H4.out.r HW.out.a.good).mono ?_
        rw [← HZ.out.1, ← HZ.out.2]
        rintro e w5 ⟨rfl, q1⟩
        obtain ⟨R5, h5⟩ := H4.out.turnR q1
        rw [← HM.out] at h5
        have H5 := Lib.hid h5
        clear q1 h5 f4
        go_wp2
        go_roundw
        case rel => exact ⟨k + 1, S4, R5, by omega, by omega, by go_num, H5.out⟩
        case measure => simp [intOf]; omega
    · have hkm : k = min n1 40 := by omega
      have HKm := Lib.hid hkm
      obtain ⟨s0, hs0⟩ : ∃ s0, s0 = madeO o k := ⟨_, rfl⟩
      have hln := madeO_len o k
      rw [← hs0] at HW hln
      have HS0 := Lib.hid hs0
      clear hkm hs0
      have hor : (k < n1 ∧ ¬ k < 40) ∨ ¬ k < n1 := by omega
      clear hlt2
      rcases hor with ⟨hl1, hl2⟩ | hl1
      all_goals go_wp2_with fail
      all_goals (
        refine (refAll_any q R s0 _ HW.out.r HW.out.a.good).mono ?_
        rintro e w4 ⟨vl, rfl, q1, q2, q3⟩
        have hI4 : ∀ x ∈ addrs 0 s0.used, I64 x := fun x hx => by
          have h1 := (mem_addrs s0.used 0 x).1 hx
          obtain ⟨y, hy⟩ := Option.isSome_iff_exists.1 h1
          obtain ⟨l1, l2, hl, rfl⟩ := findOb_split _ _ _ _ hy
          have h2 := HW.out.a.good.small
          rw [hl, tot_append] at h2
          unfold I64; omega
        obtain ⟨at_, hat⟩ : ∃ at_, at_ = addrs 0 s0.used := ⟨_, rfl⟩
        rw [← hat] at q1 hI4
        rw [List.length_map] at q1
        obtain ⟨al, cl, rfl⟩ := row_form q1
        have H4 := Lib.hid (T2.start (HW.out.kept q2))
        have hB4 : ∀ j, (Value.slice al at_.length cl).ownBlock = some j → ¬ (S j ∨ R j) := fun j hj e => by
          have h1 := q3 j hj
          rcases e with e | e
          · have := HW.out.a.lt e; omega
          · have := HW.out.r.lt e; omega
        have HR := Lib.hid (And.intro q1 (And.intro hB4 hI4))
        have hal : at_.length = s0.used.length := by rw [hat, addrs_length]
        have HAt := Lib.hid (And.intro hat hal)
        clear q1 q2 q3 hI4 hB4 hat
        obtain ⟨n2, hn2⟩ : ∃ n2, n2 = at_.length := ⟨_, rfl⟩
        have Hn2 := Lib.hid hn2
        rw [← hn2] at HR hal ⊢
        have hn2k : n2 ≤ k := by omega
        clear hn2 hal
        go_wp2_with fail
        go_loopw [11] (fun i wr => ∃ (i' : Nat) (S' R' : Nat → Prop), i' ≤ n2 ∧ i = .int .i64 i' ∧ T2 w w4 (fun j => S j ∨ R j) wr p S' (putO s0 at_ o i') q R' (putO s0 at_ o i')) (fun i _ => (n2 - intOf i).toNat)
        case atStart => exact ⟨0, S, R, by omega, rfl, H4.out⟩
        case round =>
          obtain ⟨i, S1, R1, hi1, rfl, ht1⟩ := hrel
          have HU := Lib.hid ht1; clear ht1
          by_cases hi2 : i < n2
          · have hin : i < n1 := by omega
            obtain ⟨b, off, hab, hc⟩ := H.out.cells (by omega)
            subst hab
            have HO := Lib.hid (show ∀ W : World, Fr (fun _ => False) w W → (W.cell? ⟨b, off + i * 3 + 1, none⟩ = some (.slice (o i).va (o i).vl (o i).vc) ∧ W.cell? ⟨b, off + i * 3 + 2, none⟩ = some (.slice (o i).ra (o i).rl (o i).rc)) ∧ IntsIn W (o i).va (o i).vl (o i).zv ∧ IntsIn W (o i).ra (o i).rl (o i).zr from
              fun W hW => ⟨((H.out.keep hW).at hin).2, ((H.out.keep hW).rows i hin).2⟩)
            obtain ⟨oi, hoi⟩ : ∃ oi, oi = o i := ⟨_, rfl⟩
            have HOi := Lib.hid hoi
            rw [← hoi] at HO
            obtain ⟨u0, hu0⟩ : ∃ u0, u0 = putO s0 at_ o i := ⟨_, rfl⟩
            have HU0 := Lib.hid hu0
            rw [← hu0] at HU
            clear hc hoi hu0
            obtain ⟨kd, va, vl, vc, zv, ra, rl, rc, zr⟩ := oi
            dsimp only at HO
            obtain ⟨oi, hoi⟩ : ∃ oi, oi = (⟨kd, va, vl, vc, zv, ra, rl, rc, zr⟩ : ObjD) := ⟨_, rfl⟩
            have HOj := Lib.hid hoi
            rw [← hoi] at HOi
            clear hoi
            have hvl := (HO.out w (Fr.refl _ _)).2.1.small
            have hrl := (HO.out w (Fr.refl _ _)).2.2.small
            go_wp2_with fail
            go_loopw [12] (fun x wr => ∃ (kk : Nat) (S' R' : Nat → Prop), kk ≤ vl ∧ kk ≤ 12 ∧ x = .int .i64 kk ∧ T2 w w4 (fun j => S j ∨ R j) wr p S' (putSl u0 at_ i oi kk) q R' (putSl u0 at_ i oi kk)) (fun x _ => (12 - intOf x).toNat)
            case atStart => exact ⟨0, S1, R1, by omega, by omega, rfl, HU.out⟩
            case round =>
              obtain ⟨kk, S2, R2, hkk1, hkk2, rfl, ht2⟩ := hrel
              have HV := Lib.hid ht2; clear ht2
              obtain ⟨⟨c1, c2⟩, g1, g2⟩ := HO.out _ HV.out.two.fr
              have HG2 := Lib.hid (And.intro c2 g2)
              clear c2 g2
              by_cases hkc : kk < vl ∧ kk < 12
              · obtain ⟨hkv, hk12⟩ := hkc
                obtain ⟨bv, ov, rfl, hcv⟩ := g1.cells (by omega)
                have hcell := hcv kk hkv
                have hfit := g1.fit kk hkv
                obtain ⟨y, hy⟩ : ∃ y, y = zv kk := ⟨_, rfl⟩
                rw [← hy] at hcell hfit
                have HY := Lib.hid hy
                have HFit := Lib.hid hfit
                clear hcv g1 hy
                unfold I64 at hfit
                obtain ⟨hf1, hf2⟩ := hfit
                have hrow := HV.out.row HR.out.1 HR.out.2.1
                have HRow := Lib.hid hrow
                clear hrow
                go_wp2_with fail
                go_loopw [13, 14] (fun v x wz => ∃ jj : Nat, jj ≤ rl ∧ x = .int .i64 jj ∧ v = .int .i64 y ∧ wz = wr ∧ (refsTo oi kk jj = true → ¬ (1 ≤ y ∧ y ≤ n2))) (fun _ x _ => (rl - intOf x).toNat)
                case atStart => exact ⟨0, by omega, rfl, rfl, rfl, by simp [refsTo]⟩
                case round =>
                  obtain ⟨jj, hj1, rfl, rfl, rfl, hno⟩ := hrel
                  have HNo := Lib.hid hno
                  clear hno
                  obtain ⟨ga, ca, _, ea, _, _, _⟩ := row_addr HRow.out (by omega)
                  simp only [Value.slice.injEq, true_and] at ea
                  obtain ⟨rfl, rfl⟩ := ea
                  have hat0c := row_int HRow.out hi2
                  obtain ⟨at0, hat0⟩ : ∃ x, x = at_[i]?.getD 0 := ⟨_, rfl⟩
                  rw [← hat0] at hat0c
                  have HAt0 := Lib.hid hat0
                  clear hat0
                  by_cases hjr : jj < rl
                  · have c2 := HG2.out.1
                    obtain ⟨br, or_, rfl, hcr⟩ := HG2.out.2.cells (by omega)
                    have hcell2 := hcr jj hjr
                    have hfit2 := HG2.out.2.fit jj hjr
                    obtain ⟨x, hx⟩ : ∃ x, x = zr jj := ⟨_, rfl⟩
                    rw [← hx] at hcell2 hfit2
                    unfold I64 at hfit2
                    obtain ⟨hg1, hg2⟩ := hfit2
                    have HRs := Lib.hid (show refsTo oi kk (jj + 1) = (refsTo oi kk jj || (x == (kk : Int))) from by rw [refsTo_succ, hx, HOj.out])
                    have HRo := Lib.hid (show x = (kk : Int) → refsTo oi kk oi.rl = true from fun e => by
                      rw [HOj.out]; exact refsTo_of _ kk (j := jj) hjr (show zr jj = _ from by rw [← hx]; exact e))
                    clear hcr hx
                    by_cases hz : x = (kk : Int)
                    · subst hz
                      by_cases hy1 : 1 ≤ y
                      · by_cases hy2 : y ≤ n2
                        · obtain ⟨m, rfl⟩ : ∃ m : Nat, y = (m : Int) + 1 := ⟨(y - 1).toNat, by omega⟩
                          have hcm := row_int HRow.out (j := m) (by omega)
                          obtain ⟨v', hv'⟩ : ∃ v', v' = at_[m]?.getD 0 := ⟨_, rfl⟩
                          rw [← hv'] at hcm
                          have HVv := Lib.hid (show slotV at_ oi kk = v' ∧ I64 v' from by
                            refine ⟨?_, ?_⟩
                            · unfold slotV
                              have h7 : oi.zv kk = (m : Int) + 1 := by rw [HOj.out]; exact HY.out.symm
                              rw [if_pos ⟨HRo.out rfl, by omega, by rw [h7, ← Hn2.out]; exact hy2⟩, h7, hv', show ((m : Int) + 1 - 1).toNat = m from by omega]
                            · have hml : m < at_.length := by rw [← Hn2.out]; omega
                              rw [hv', List.getElem?_eq_getElem hml]
                              exact HR.out.2.2 _ (List.getElem_mem hml))
                          clear hv' HRo HRs HNo
                          go_wp2_with fail
                          refine (Put_any p at0 kk v' S2 _ _ HV.out.two.a HVv.out.2).mono ?_
                          obtain ⟨ge, hge⟩ : ∃ ge, ge = slotE (findOb 0 (putSl u0 at_ i oi kk).used at0) kk := ⟨_, rfl⟩
                          have HGe := Lib.hid hge
                          rw [← hge]
                          clear hge
                          rintro e w5 ⟨rfl, q1, q2⟩
                          obtain ⟨S3, h3⟩ := HV.out.turnA (Turned.same q1 q2)
                          have H3 := Lib.hid h3
                          have hcell0 := row_int (h3.row HR.out.1 HR.out.2.1) hi2
                          rw [← HAt0.out] at hcell0
                          clear q1 q2 h3 hat0c
                          go_wp2_with fail
                          refine (refPut_any q at0 kk v' R2 _ _ H3.out.two.r HV.out.two.a.good).mono ?_
                          rw [← HGe.out]
                          rintro e w6 ⟨rfl, q1, q2⟩
                          obtain ⟨R3, h4⟩ := H3.out.turnR (TurnedR.same q1 q2)
                          have H4b := Lib.hid (show T2 w w4 (fun j => S j ∨ R j) w6 p S3 (putSl u0 at_ i oi (kk + 1)) q R3 (putSl u0 at_ i oi (kk + 1)) from by
                            show T2 w w4 _ w6 p S3 ((putSl u0 at_ i oi kk).put (at_[i]?.getD 0) kk (slotV at_ oi kk)) q R3 ((putSl u0 at_ i oi kk).put (at_[i]?.getD 0) kk (slotV at_ oi kk))
                            rw [HVv.out.1, ← HAt0.out]; exact h4)
                          clear q1 q2 h4 hcell0
                          go_wp2
                          go_roundw
                          case rel => exact ⟨kk + 1, S3, R3, by omega, by omega, by go_num, H4b.out⟩
                          case measure => simp [intOf]; omega
                        · have hb : decide (y ≤ (n2 : Int)) = false := by simpa using hy2
                          go_wp2
                          go_roundw
                          case rel => exact ⟨jj + 1, by omega, by go_num, rfl, by trivial, fun _ h => hy2 h.2⟩
                          case measure => simp [intOf]; omega
                      · have hb : decide (1 ≤ y) = false := by simpa using hy1
                        go_wp2
                        go_roundw
                        case rel => exact ⟨jj + 1, by omega, by go_num, rfl, by trivial, fun _ h => hy1 h.1⟩
                        case measure => simp [intOf]; omega
                    · have hb : (x == (kk : Int)) = false := by simpa using hz
                      go_wp2
                      go_roundw
                      case rel => exact ⟨jj + 1, by omega, by go_num, rfl, by trivial, fun h => HNo.out (by rw [HRs.out] at h; simpa [hz] using h)⟩
                      case measure => simp [intOf]; omega
                  · have HVv := Lib.hid (show slotV at_ oi kk = y ∧ I64 y from by
                      refine ⟨?_, HFit.out⟩
                      unfold slotV
                      have h7 : oi.zv kk = y := by rw [HOj.out]; exact HY.out.symm
                      have h8 : oi.rl = jj := by rw [HOj.out]; show rl = jj; omega
                      rw [if_neg, h7]
                      rw [h7, h8, ← Hn2.out]
                      exact fun h => HNo.out h.1 h.2)
                    have c2 := HG2.out.1
                    obtain ⟨v', hv'⟩ : ∃ v', v' = y := ⟨_, rfl⟩
                    subst hv'
                    go_wp2_with fail
                    refine (Put_any p at0 kk v' S2 _ _ HV.out.two.a HVv.out.2).mono ?_
                    obtain ⟨ge, hge⟩ : ∃ ge, ge = slotE (findOb 0 (putSl u0 at_ i oi kk).used at0) kk := ⟨_, rfl⟩
                    have HGe := Lib.hid hge
                    rw [← hge]
                    clear hge
                    rintro e w5 ⟨rfl, q1, q2⟩
                    obtain ⟨S3, h3⟩ := HV.out.turnA (Turned.same q1 q2)
                    have H3 := Lib.hid h3
                    have hcell0 := row_int (h3.row HR.out.1 HR.out.2.1) hi2
                    rw [← HAt0.out] at hcell0
                    clear q1 q2 h3 hat0c
                    go_wp2_with fail
                    refine (refPut_any q at0 kk v' R2 _ _ H3.out.two.r HV.out.two.a.good).mono ?_
                    rw [← HGe.out]
                    rintro e w6 ⟨rfl, q1, q2⟩
                    obtain ⟨R3, h4⟩ := H3.out.turnR (TurnedR.same q1 q2)
                    have H4b := Lib.hid (show T2 w w4 (fun j => S j ∨ R j) w6 p S3 (putSl u0 at_ i oi (kk + 1)) q R3 (putSl u0 at_ i oi (kk + 1)) from by
                      show T2 w w4 _ w6 p S3 ((putSl u0 at_ i oi kk).put (at_[i]?.getD 0) kk (slotV at_ oi kk)) q R3 ((putSl u0 at_ i oi kk).put (at_[i]?.getD 0) kk (slotV at_ oi kk))
                      rw [HVv.out.1, ← HAt0.out]; exact h4)
                    clear q1 q2 h4 hcell0
                    go_wp2
                    go_roundw
                    case rel => exact ⟨kk + 1, S3, R3, by omega, by omega, by go_num, H4b.out⟩
                    case measure => simp [intOf]; omega
              · have hor : (kk < vl ∧ ¬ kk < 12) ∨ ¬ kk < vl := by omega
                have HE := Lib.hid (show putSl u0 at_ i oi kk = putO s0 at_ o (i + 1) from by
                  show _ = putSl (putO s0 at_ o i) at_ i (o i) (min (o i).vl 12)
                  rw [← HU0.out, ← HOi.out, HOj.out]
                  congr 1
                  simp only; omega)
                clear hkc g1
                rcases hor with ⟨hl1, hl2⟩ | hl1
                all_goals (
                  go_wp2
                  go_roundw)
                case rel => exact ⟨i + 1, S2, R2, by omega, by go_num, by rw [← HE.out]; exact HV.out⟩
                case rel => exact ⟨i + 1, S2, R2, by omega, by go_num, by rw [← HE.out]; exact HV.out⟩
                all_goals (simp [intOf]; omega)
          · have HX := Lib.hid (show putO s0 at_ o i = madeX n1 o from by
              rw [madeX, ← HKm.out, ← HS0.out, ← HAt.out.1, ← HAt.out.2, ← Hn2.out, show i = n2 from by omega])
            go_wp2
            go_ret2
            exact ⟨p, S1, q, R1, rfl, by rw [← HX.out]; exact HU.out.two⟩)
end Go.Proofs.Ytniifefmjdjebaa
namespace Go.Proofs.Ytniifefmjdjebaa
open Go.RowKit
set_option linter.unusedVariables false
set_option linter.unusedSimpArgs false
/-- A root: an object's address by its number, or what it is. -/
def rootV (at_ : List Int) (y : Int) : Int := if 1 ≤ y ∧ y ≤ at_.length then at_[(y - 1).toNat]?.getD 0 else y
def rootsK (at_ : List Int) (z : Nat → Int) (k : Nat) : List Int := (List.range k).map fun i => rootV at_ (z i)
def rootsOf (at_ : List Int) (n : Nat) (z : Nat → Int) : List Int := rootsK at_ z (min n 20)
theorem rootsK_succ (at_ : List Int) (z : Nat → Int) (k : Nat) : rootsK at_ z (k + 1) = rootsK at_ z k ++ [rootV at_ (z k)] := by unfold rootsK; rw [List.range_succ, List.map_append]; rfl
theorem rootsK_length (at_ : List Int) (z : Nat → Int) (k : Nat) : (rootsK at_ z k).length = k := by simp [rootsK]
theorem addrs_I64 {s : AS} (hs : tot s.used ≤ 1048576) : ∀ x ∈ addrs 0 s.used, 8 ≤ x ∧ x ≤ 1048576 := fun x hx => by
  have h1 := (mem_addrs s.used 0 x).1 hx
  obtain ⟨y, hy⟩ := Option.isSome_iff_exists.1 h1
  obtain ⟨l1, l2, hl, rfl⟩ := findOb_split _ _ _ _ hy
  rw [hl, tot_append, tot_cons] at hs
  have := size_pos y
  omega
theorem rootsOf_I64 {s : AS} (hs : tot s.used ≤ 1048576) {n : Nat} {z : Nat → Int} (hz : ∀ i, i < n → I64 (z i)) : ∀ x ∈ rootsOf (addrs 0 s.used) n z, I64 x := fun x hx => by
  unfold rootsOf rootsK at hx
  obtain ⟨i, hi, rfl⟩ := List.mem_map.1 hx
  have hi2 := List.mem_range.1 hi
  unfold rootV
  split
  · rename_i hc
    have h1 : (z i - 1).toNat < (addrs 0 s.used).length := by omega
    rw [List.getElem?_eq_getElem h1, Option.getD_some]
    have h2 := addrs_I64 hs _ (List.getElem_mem h1)
    unfold I64; omega
  · exact hz i (by omega)
set_option maxRecDepth 100000 in
set_option maxHeartbeats 4000000 in
theorem roots_any (q : Nat) (R : Nat → Prop) (s : AS) (a1 : Option Addr) (n1 c1 : Nat) (z : Nat → Int) (w : World) (h : IsRef w q R s) (hg : s.Good) (h1 : IntsIn w a1 n1 z) :
    Calls Try.prog 50 #[.pointer (some ⟨q, 0, none⟩), .slice a1 n1 c1] w fun e w' => NewRow w w' 2 ((rootsOf (addrs 0 s.used) n1 z).map (Value.int .i64)) e := by
  obtain ⟨i2, hi2, hz2, hs2, hb2⟩ := info_parts info2
  have hn := h1.small
  have H := Lib.hid (And.intro h (And.intro hg h1)); clear h hg h1
  obtain ⟨at_, hat⟩ : ∃ at_, at_ = addrs 0 s.used := ⟨_, rfl⟩
  rw [← hat]
  have HAt := Lib.hid hat
  clear hat
  go_enter Try.func50, Try.ntmps50
  go_wp2_with fail
  refine (refAll_any q R s _ H.out.1 H.out.2.1).mono ?_
  rintro e w2 ⟨vl, rfl, q1, q2, q3⟩
  rw [← HAt.out] at q1
  rw [List.length_map] at q1
  obtain ⟨al, cl, rfl⟩ := row_form q1
  have H2 := Lib.hid (And.intro q1 q2)
  clear q1 q2 q3
  obtain ⟨n2, hn2⟩ : ∃ n2, n2 = at_.length := ⟨_, rfl⟩
  have Hn2 := Lib.hid hn2
  rw [← hn2] at H2 ⊢
  clear hn2
  go_wp2_with fail
  go_loopw [6, 7] (fun u i wr => ∃ k : Nat, k ≤ n1 ∧ k ≤ 20 ∧ i = .int .i64 k ∧ Onto w2 wr 2 nilRow u ((rootsK at_ z k).map (Value.int .i64))) (fun _ i _ => (20 - intOf i).toNat)
  case atStart => exact ⟨0, by omega, by omega, rfl, Onto.refl (World.ownsRow_nil _ _ _ _)⟩
  case round =>
    obtain ⟨k, hk1, hk2, rfl, ho⟩ := hrel
    have HO := Lib.hid ho; clear ho
    by_cases hlt2 : k < n1 ∧ k < 20
    · obtain ⟨hlt, hl2⟩ := hlt2
      obtain ⟨b, off, rfl, hc⟩ := ((H.out.2.2.keep H2.out.2).keep HO.out.fr).cells (by omega)
      have hcell := hc k hlt
      have hfit := H.out.2.2.fit k hlt
      obtain ⟨y, hy⟩ : ∃ y, y = z k := ⟨_, rfl⟩
      have Hs := Lib.hid (show rootsK at_ z (k + 1) = rootsK at_ z k ++ [rootV at_ y] from by rw [rootsK_succ, hy])
      rw [← hy] at hcell hfit
      obtain ⟨f1, f2⟩ := hfit
      have hr := HO.out.1
      rw [List.length_map, rootsK_length] at hr
      obtain ⟨au, cu, rfl⟩ := row_form hr
      have Hr := Lib.hid hr
      clear hc hy hr
      by_cases hy1 : 1 ≤ y
      · by_cases hy2 : y ≤ n2
        · obtain ⟨m, hm⟩ : ∃ m : Nat, y = (m : Int) + 1 := ⟨(y - 1).toNat, by omega⟩
          have hym : y - 1 = (m : Int) := by omega
          have hrow := HO.out.fr.row H2.out.1 (fun _ _ h => h)
          obtain ⟨ga, ca, _, ea, _, _, _⟩ := row_addr hrow (by omega)
          simp only [Value.slice.injEq, true_and] at ea
          obtain ⟨rfl, rfl⟩ := ea
          have hcm := row_int hrow (j := m) (by omega)
          obtain ⟨v', hv'⟩ : ∃ v', v' = at_[m]?.getD 0 := ⟨_, rfl⟩
          rw [← hv'] at hcm
          have HV := Lib.hid (show rootV at_ y = v' from by
            unfold rootV
            rw [if_pos ⟨by omega, by rw [← Hn2.out]; omega⟩, hv', show (y - 1).toNat = m from by omega])
          clear hv' hrow hm
          go_wp2_with (first | (at_builtin; refine wpList_append_own_at _ rfl _ _ 38 rfl 0 2 i2 (.int .i64 0) 1 8 und38 hi2 hz2 hs2 hb2 rfl (by decide) _ _ _ rfl (Hr.out.alloc _) ⟨wr.heap.size, 0, none⟩ 1 1 [.int .i64 v'] rfl rfl (fun j u hu => cell_one_new _ _ _ j u hu) (by intro u hu; simp at hu; subst hu; rfl) (by unfold maxLen; omega) (by omega) (Nat.zero_le _) ?_))
          intro v7 w7 hown7 hgr7 _ hloc7
          have HG := Lib.hid (HO.out.trans (Onto.one (x := .int .i64 v') (by rw [List.length_map, rootsK_length]; exact hown7) hgr7 (by simpa using hloc7)))
          clear hown7 hgr7 hloc7
          go_wp2
          go_roundw
          case rel => exact ⟨k + 1, by omega, by omega, by go_num, by rw [Hs.out, HV.out, List.map_append]; exact HG.out⟩
          case measure => simp [intOf]; omega
        · have hb : decide (y ≤ (n2 : Int)) = false := by simpa using hy2
          have HV := Lib.hid (show rootV at_ y = y from by
            unfold rootV; rw [if_neg]; rw [← Hn2.out]; exact fun h => hy2 h.2)
          go_wp2_with (first | (at_builtin; refine wpList_append_own_at _ rfl _ _ 38 rfl 0 2 i2 (.int .i64 0) 1 8 und38 hi2 hz2 hs2 hb2 rfl (by decide) _ _ _ rfl (Hr.out.alloc _) ⟨wr.heap.size, 0, none⟩ 1 1 [.int .i64 y] rfl rfl (fun j u hu => cell_one_new _ _ _ j u hu) (by intro u hu; simp at hu; subst hu; rfl) (by unfold maxLen; omega) (by omega) (Nat.zero_le _) ?_))
          intro v7 w7 hown7 hgr7 _ hloc7
          have HG := Lib.hid (HO.out.trans (Onto.one (x := .int .i64 y) (by rw [List.length_map, rootsK_length]; exact hown7) hgr7 (by simpa using hloc7)))
          clear hown7 hgr7 hloc7
          go_wp2
          go_roundw
          case rel => exact ⟨k + 1, by omega, by omega, by go_num, by rw [Hs.out, HV.out, List.map_append]; exact HG.out⟩
          case measure => simp [intOf]; omega
      · have hb : decide (1 ≤ y) = false := by simpa using hy1
        have HV := Lib.hid (show rootV at_ y = y from by
            unfold rootV; rw [if_neg]; exact fun h => hy1 h.1)
        go_wp2_with (first | (at_builtin; refine wpList_append_own_at _ rfl _ _ 38 rfl 0 2 i2 (.int .i64 0) 1 8 und38 hi2 hz2 hs2 hb2 rfl (by decide) _ _ _ rfl (Hr.out.alloc _) ⟨wr.heap.size, 0, none⟩ 1 1 [.int .i64 y] rfl rfl (fun j u hu => cell_one_new _ _ _ j u hu) (by intro u hu; simp at hu; subst hu; rfl) (by unfold maxLen; omega) (by omega) (Nat.zero_le _) ?_))
        intro v7 w7 hown7 hgr7 _ hloc7
        have HG := Lib.hid (HO.out.trans (Onto.one (x := .int .i64 y) (by rw [List.length_map, rootsK_length]; exact hown7) hgr7 (by simpa using hloc7)))
        clear hown7 hgr7 hloc7
        go_wp2
        go_roundw
        case rel => exact ⟨k + 1, by omega, by omega, by go_num, by rw [Hs.out, HV.out, List.map_append]; exact HG.out⟩
        case measure => simp [intOf]; omega
    · have hor : (k < n1 ∧ ¬ k < 20) ∨ ¬ k < n1 := by omega
      have HF := Lib.hid (show NewRow w wr 2 ((rootsOf at_ n1 z).map (Value.int .i64)) (.returned u6) from by
        have e : k = min n1 20 := by omega
        unfold rootsOf
        rw [← e]
        exact ⟨_, rfl, HO.out.1, H2.out.2.trans HO.out.fr (fun _ h => h) (fun _ _ h => h), fun g hg => by have := HO.out.new hg; have := H2.out.2.size; omega⟩)
      clear hlt2
      rcases hor with ⟨hl1, hl2⟩ | hl1
      all_goals (
        go_wp2
        go_ret
        exact HF.out)
end Go.Proofs.Ytniifefmjdjebaa
namespace Go.Proofs.Ytniifefmjdjebaa
open Go.RowKit
set_option linter.unusedVariables false
set_option linter.unusedSimpArgs false
theorem firstAt_isSome (z : Nat → Int) (a : Int) : ∀ (n i : Nat), (firstAt z a i n).isSome = true ↔ ∃ j, i ≤ j ∧ j < i + n ∧ z j = a
  | 0, i => by simp [firstAt]; omega
  | n + 1, i => by
    unfold firstAt
    by_cases h : z i = a
    · rw [if_pos h]
      exact ⟨fun _ => ⟨i, Nat.le_refl _, by omega, h⟩, fun _ => rfl⟩
    · rw [if_neg h, firstAt_isSome z a n (i + 1)]
      constructor
      · rintro ⟨j, h1, h2, h3⟩; exact ⟨j, by omega, by omega, h3⟩
      · rintro ⟨j, h1, h2, h3⟩
        have : i ≠ j := fun e => h (e ▸ h3)
        exact ⟨j, by omega, by omega, h3⟩
theorem standsIn_mem (xs : List Int) (a : Int) : (standsIn xs.length (fun j => xs[j]?.getD 0) a).isSome = decide (a ∈ xs) := by
  rw [Bool.eq_iff_iff, decide_eq_true_iff]
  unfold standsIn
  rw [firstAt_isSome]
  constructor
  · rintro ⟨j, _, h2, h3⟩
    have hj : j < xs.length := by omega
    simp only [List.getElem?_eq_getElem hj, Option.getD_some] at h3
    exact h3 ▸ List.getElem_mem hj
  · intro h
    obtain ⟨j, hj, e⟩ := List.mem_iff_getElem.1 h
    exact ⟨j, Nat.zero_le _, by omega, by simp only [List.getElem?_eq_getElem hj, Option.getD_some]; exact e⟩
theorem isOb_I64 {s : AS} (hg : s.Good) {a : Int} (h : isOb s a = true) : I64 a := by
  have h1 := addrs_I64 hg.small a ((mem_addrs s.used 0 a).2 h)
  unfold I64; omega
theorem FoundAt.is {hs : List OH} {s : AS} {a : Int} {u : Value} (h : FoundAt hs s.used a u) : (∃ b, u = .pointer (some ⟨b, 0, none⟩) ∧ isOb s a = true) ∨ (u = .pointer none ∧ isOb s a = false) := by
  rcases h with ⟨j, o, x, _, _, _, hf, rfl⟩ | ⟨hf, rfl⟩
  · exact .inl ⟨o.1, rfl, by unfold isOb; rw [hf]; rfl⟩
  · exact .inr ⟨rfl, by unfold isOb; rw [hf]; rfl⟩
/-- Each once, or as they come: what they lead to is the same. -/
theorem addAll_dedup (p q : Int → Bool) (f : Int → Int) (out : List Int) : ∀ (L acc : List Int), addAll p out ((addAll q acc L).map f) = addAll p (addAll p out (acc.map f)) ((L.filter q).map f)
  | [], acc => rfl
  | x :: L, acc => by
    have ih := addAll_dedup p q f out L (addN q acc x)
    rw [show addAll q acc (x :: L) = addAll q (addN q acc x) L from rfl, ih]
    by_cases hq : q x = true
    · rw [List.filter_cons_of_pos hq, List.map_cons]
      rw [show ∀ A l, addAll p A (f x :: l) = addAll p (addN p A (f x)) l from fun _ _ => rfl]
      by_cases hx : x ∈ acc
      · rw [addN_skip (.inl hx)]
        congr 1
        symm
        apply addN_skip
        by_cases hp : p (f x) = true
        · exact .inl (addAll_mem.2 (.inr ⟨List.mem_map_of_mem hx, hp⟩))
        · right; simpa using hp
      · rw [addN_new hq hx, List.map_append, addAll_append]; rfl
    · rw [List.filter_cons_of_neg hq, addN_skip (.inr (by simpa using hq))]
theorem leads_good (s : AS) (T : List (List Int)) (x : Ob) (out : List Int) : addAll (isOb s) out (leads x (refsG T x)) = addAll (isOb s) out (leads x (goodG T x)) := by
  have h := addAll_dedup (isOb s) (inB x.vs.length) (fun n => getV (some x) n) out (refsT T x.kind x.vs.length) []
  exact h
end Go.Proofs.Ytniifefmjdjebaa
namespace Go.Proofs.Ytniifefmjdjebaa
open Go.RowKit
set_option linter.unusedVariables false
set_option linter.unusedSimpArgs false
theorem row_maxLen {w : World} {base e n : Nat} {v : Value} {xs : List Value} (h : w.ownsRow base e 1 v n xs) : n ≤ 9223372036854775807 := by
  rcases h.2 with ⟨_, h0⟩ | ⟨_, cap, cur, h1, _, h2, h3, h4, _⟩
  · omega
  · unfold maxLen at h4; omega
theorem Onto.kept {w w' w'' : World} {e : TypeId} {v v' : Value} {xs : List Value} (h : Onto w w' e v v' xs) (hf : Fr (fun _ => False) w' w'') : Onto w w'' e v v' xs :=
  ⟨hf.row h.1 (fun _ _ h => h), ((Fr.of_grown (S := fun k => v.ownBlock = some k) h.2.1 (fun _ h => h)).trans hf (fun _ h => h) (fun _ _ h => h.elim)).grown (fun _ _ h => h), h.2.2⟩
theorem Onto.drewN {w w' : World} {e : TypeId} {v v' : Value} {xs : List Value} (h : Onto w w' e v v' xs) (n : Nat) : Onto w (w'.drewN n) e v v' xs := h.kept (Fr.drewN _ w' n)
set_option maxRecDepth 100000 in
set_option maxHeartbeats 4000000 in
theorem refReach_any (q : Nat) (tv rv : Value) (rts : List Int) (R : Nat → Prop) (s : AS) (T : List (List Int)) (D : Nat → Prop) (rs : List Value) (w : World) (h : IsRef w q R s) (hg : s.Good) (ht : TabIs w tv T D rs) (hr : w.ownsRow 0 2 1 rv rts.length (rts.map (Value.int .i64))) (hl : rts.length ≤ 1048576) (hD : ∀ k, D k → k < w.heap.size) :
    Calls Try.prog 56 #[.pointer (some ⟨q, 0, none⟩), tv, rv] w fun e w' => NewRow w w' 2 ((reach s T rts).map (Value.int .i64)) e := by
  obtain ⟨i2, hi2, hz2, hs2, hb2⟩ := info_parts info2
  obtain ⟨vl, va, hlr, ha, tl, h1, h2⟩ := h
  obtain ⟨av, cv, rfl⟩ := row_form ht.row
  obtain ⟨ar, cr, rfl⟩ := row_form hr
  have hul : s.used.length ≤ 1048576 := Nat.le_trans (len_le_tot s.used) (Nat.le_trans hg.fits hg.hi)
  have H := Lib.hid (And.intro h1 (And.intro hg (And.intro ht (And.intro hr hD)))); clear h1 h2 hg ht hr hD
  obtain ⟨lr, hlr'⟩ : ∃ n, n = rts.length := ⟨_, rfl⟩
  have Hlr := Lib.hid hlr'
  rw [← hlr'] at H hl ⊢
  clear hlr'
  obtain ⟨lt, hlt'⟩ : ∃ n, n = T.length := ⟨_, rfl⟩
  rw [← hlt'] at H ⊢
  clear hlt'
  go_enter Try.func56, Try.ntmps56
  go_wp2_with fail
  go_loopw [7, 8] (fun u i wr => ∃ (k : Nat) (out : List Int), k ≤ lr ∧ i = .int .i64 k ∧ out = addAll (isOb s) [] (rts.take k) ∧ out.length ≤ k ∧ Onto w wr 2 nilRow u (out.map (Value.int .i64))) (fun _ i _ => (lr - intOf i).toNat)
  case atStart => exact ⟨0, [], by omega, rfl, rfl, by simp, Onto.refl (World.ownsRow_nil _ _ _ _)⟩
  case round =>
    obtain ⟨k, out, hk, rfl, r1, r2, r3⟩ := hrel
    have HO := Lib.hid (And.intro r1 r3); clear r1 r3
    have hrow := HO.out.2.1
    rw [List.length_map] at hrow
    obtain ⟨au, cu, rfl⟩ := row_form hrow
    have Hr := Lib.hid hrow
    clear hrow
    by_cases hlt : k < lr
    · have hrr := HO.out.2.fr.row H.out.2.2.2.1 (fun _ _ h => h)
      obtain ⟨g, c, _, e1, _, _, _⟩ := row_addr hrr (by omega)
      simp only [Value.slice.injEq, true_and] at e1
      obtain ⟨rfl, rfl⟩ := e1
      have hcell := row_int hrr hlt
      have Htk := Lib.hid (show addAll (isOb s) [] (rts.take (k + 1)) = addN (isOb s) out (rts[k]?.getD 0) from by
        have hkL : k < rts.length := by rw [← Hlr.out]; exact hlt
        rw [List.take_succ_eq_append_getElem hkL, addAll_append, List.getElem?_eq_getElem hkL, HO.out.1]; rfl)
      obtain ⟨y, hy⟩ : ∃ y, y = rts[k]?.getD 0 := ⟨_, rfl⟩
      rw [← hy] at hcell Htk
      clear hrr hy
      have HI := Lib.hid (row_ints Hr.out (fun x hx => isOb_I64 H.out.2.1 (by
        rw [HO.out.1] at hx
        rcases addAll_mem.1 hx with h | h
        · cases h
        · exact h.2)))
      have HSm := Lib.hid (standsIn_mem out y)
      go_wp2_with fail
      refine (refAt_any q y vl va hlr ha tl s _ (H.out.1.keep HO.out.2.fr (fun _ _ h => h)) H.out.2.1).mono ?_
      rintro e w2 ⟨u, rfl, hf, rfl⟩
      rcases hf.is with ⟨bo, rfl, hob⟩ | ⟨rfl, hob⟩
      · have HOb := Lib.hid hob
        clear hf hob
        go_wp2_with fail
        refine (has_any _ _ _ _ y _ HI.out).mono ?_
        rw [HSm.out]
        rintro e w3 ⟨rfl, rfl⟩
        by_cases hin : y ∈ out
        · rw [decide_eq_true hin]
          have HA := Lib.hid (show addAll (isOb s) [] (rts.take (k + 1)) = out from by rw [Htk.out, addN_skip (.inl hin)])
          clear hin
          go_wp2
          go_roundw
          case rel => exact ⟨k + 1, out, by omega, by go_num, HA.out.symm, by omega, HO.out.2⟩
          case measure => simp [intOf]; omega
        · rw [decide_eq_false hin]
          have HA := Lib.hid (show addAll (isOb s) [] (rts.take (k + 1)) = out ++ [y] from by rw [Htk.out, addN_new HOb.out hin])
          clear hin
          go_wp2_with (first | (at_builtin; refine wpList_append_own_at _ rfl _ _ 38 rfl 0 2 i2 (.int .i64 0) 1 8 und38 hi2 hz2 hs2 hb2 rfl (by decide) _ _ _ rfl (Hr.out.alloc _) ⟨w3.heap.size, 0, none⟩ 1 1 [.int .i64 y] rfl rfl (fun j u hu => cell_one_new _ _ _ j u hu) (by intro u hu; simp at hu; subst hu; rfl) (by unfold maxLen; omega) (by omega) (Nat.zero_le _) ?_))
          intro v7 w7 hown7 hgr7 _ hloc7
          have HG := Lib.hid (HO.out.2.trans (Onto.one (x := .int .i64 y) (by rw [List.length_map]; exact hown7) hgr7 (by simpa using hloc7)))
          clear hown7 hgr7 hloc7
          go_wp2
          go_roundw
          case rel => exact ⟨k + 1, out ++ [y], by omega, by go_num, HA.out.symm, by simp; omega, by rw [List.map_append]; exact HG.out⟩
          case measure => simp [intOf]; omega
      · have HA := Lib.hid (show addAll (isOb s) [] (rts.take (k + 1)) = out from by rw [Htk.out, addN_skip (.inr hob)])
        clear hf hob
        go_wp2
        go_roundw
        case rel => exact ⟨k + 1, out, by omega, by go_num, HA.out.symm, by omega, HO.out.2⟩
        case measure => simp [intOf]; omega
    · obtain rfl : k = lr := by omega
      have HO2 := Lib.hid (show out = reachK s T rts 0 ∧ Onto w wr 2 nilRow (.slice au out.length cu) (out.map (Value.int .i64)) from ⟨by rw [HO.out.1, Hlr.out, List.take_length]; rfl, HO.out.2⟩)
      clear Hr
      go_wp2_with fail
      go_loopw [7, 9] (fun u i wr => ∃ (i' : Nat) (out : List Int), i' ≤ out.length ∧ i = .int .i64 i' ∧ out = reachK s T rts i' ∧ Onto w wr 2 nilRow u (out.map (Value.int .i64))) (fun _ i _ => (s.used.length + 1 - intOf i).toNat)
      case atStart => exact ⟨0, out, by omega, rfl, HO2.out⟩
      case round =>
        obtain ⟨i, o2, hi, rfl, r1, r3⟩ := hrel
        have hol := reachK_len s T rts i
        rw [← r1] at hol
        have HP := Lib.hid (And.intro r1 r3); clear r1 r3
        have hrow := HP.out.2.1
        rw [List.length_map] at hrow
        obtain ⟨au2, cu2, rfl⟩ := row_form hrow
        have Hr := Lib.hid hrow
        clear hrow
        by_cases hlt2 : i < o2.length
        · have hrr := Hr.out
          obtain ⟨g, c, _, e1, _, _, _⟩ := row_addr hrr (by omega)
          simp only [Value.slice.injEq, true_and] at e1
          obtain ⟨rfl, rfl⟩ := e1
          have hcell := row_int hrr hlt2
          obtain ⟨y, hy⟩ : ∃ y, y = o2[i]?.getD 0 := ⟨_, rfl⟩
          rw [← hy] at hcell
          have hyo : o2[i]? = some y := by rw [hy, List.getElem?_eq_getElem hlt2]; rfl
          have hob : isOb s y = true := (reachK_good s T rts i).2 y (by rw [← HP.out.1]; exact List.mem_of_getElem? hyo)
          have HY := Lib.hid (And.intro hyo hob)
          clear hrr hy hyo hob
          go_wp2_with fail
          refine (refAt_any q y vl va hlr ha tl s _ (H.out.1.keep HP.out.2.fr (fun _ _ h => h)) H.out.2.1).mono ?_
          rintro e w2 ⟨u, rfl, hf, rfl⟩
          rcases hf with ⟨j, oo, x, hj, hx, _, hfd, rfl⟩ | ⟨hfd, rfl⟩
          · have HOC := Lib.hid (fun (W : World) (hW : Fr (fun _ => False) w W) => (H.out.1.keep hW (fun _ _ h => h)).used.obs j oo x hj hx)
            have hok := H.out.2.1.used x (List.mem_of_getElem? hx)
            have HX := Lib.hid (And.intro hfd hok)
            have hvl := hok.2.1
            obtain ⟨ob, ov⟩ := oo
            obtain ⟨avx, cvx, rfl⟩ := row_form (HOC.out w (Fr.refl _ _)).row
            obtain ⟨xn, hxn⟩ : ∃ xn, xn = x.vs.length := ⟨_, rfl⟩
            have Hxn := Lib.hid hxn
            rw [← hxn] at HOC hvl ⊢
            clear hfd hj hx hok hxn hcell
            simp only [optr]
            have HFd := Lib.hid (show Fr (fun _ => False) w (w2.drewN 1) from HP.out.2.fr.trans (Fr.drewN _ w2 1) (fun _ h => h) (fun _ _ h => h))
            have HCell := Lib.hid (fun (W : World) (hW : Fr (fun _ => False) w W) => And.intro (blk_cell (HOC.out W hW).cells 1) (blk_cell (HOC.out W hW).cells 2))
            go_wp2_with fail
            go_region_held3 (fun w' => w'.cell? ⟨ob, 1, none⟩ = some (.int .i64 x.kind) ∧ w'.cell? ⟨ob, 2, none⟩ = some (.slice avx xn cvx))
              (first | exact HCell.out _ HFd.out | exact HCell.out _ (HFd.out.trans H5.out.2.1 (fun _ h => h) (fun _ _ h => h)))
              (first | (go_at_call 45; refine (refRefs_any _ T D rs x.kind xn _ (H.out.2.2.1.keep HFd.out (fun _ _ h => h)) HX.out.2.1 (by omega) (by omega)).mono ?_; rintro e w5 ⟨v5, rfl, q1, q2, q3⟩; have H5 := Lib.hid (And.intro q1 (And.intro q2 q3)); clear q1 q2 q3))
            obtain ⟨L, hL⟩ : ∃ L, L = refsT T x.kind xn := ⟨_, rfl⟩
            have HL := Lib.hid hL
            rw [← hL, List.length_map] at H5
            obtain ⟨a5, c5, rfl⟩ := row_form H5.out.1
            obtain ⟨n5, hn5⟩ : ∃ n, n = L.length := ⟨_, rfl⟩
            have Hn5 := Lib.hid hn5
            have hn64 : n5 ≤ 65536 := by rw [hn5, hL]; exact refsT_len T x.kind _ H.out.2.2.1.small.2 hvl
            rw [← hn5] at H5 ⊢
            clear hL hn5
            have HO5 := Lib.hid (HP.out.2.kept ((Fr.drewN _ w2 1).trans H5.out.2.1 (fun _ h => h) (fun _ _ h => h)))
            have HGo := Lib.hid (show reachK s T rts (i + 1) = addAll (isOb s) o2 (leads x (L.filter (inB xn))) from by
              have e : goodG T x = L.filter (inB xn) := by unfold goodG; rw [HL.out, Hxn.out]
              rw [← e, ← leads_good]
              show stepB s T (reachK s T rts i) i = _
              unfold stepB
              rw [← HP.out.1, HY.out.1]
              simp only [HX.out.1])
            go_wp2_with fail
            go_loopw [7, 12] (fun u x12 wr => ∃ (jj : Nat) (o3 : List Int), jj ≤ n5 ∧ x12 = .int .i64 jj ∧ o3 = addAll (isOb s) o2 (leads x ((L.take jj).filter (inB xn))) ∧ Onto w wr 2 nilRow u (o3.map (Value.int .i64)) ∧ wr.ownsRow 0 3 1 (.slice a5 n5 c5) n5 (L.map (Value.int .i64))) (fun _ x12 _ => (n5 - intOf x12).toNat)
            case atStart => exact ⟨0, o2, by omega, rfl, rfl, HO5.out, H5.out.1⟩
            case round =>
              obtain ⟨jj, o3, hjj, rfl, r1, r3, r4⟩ := hrel
              have HQ := Lib.hid (And.intro r1 (And.intro r3 r4)); clear r1 r3 r4
              have hrow := HQ.out.2.1.1
              rw [List.length_map] at hrow
              obtain ⟨au3, cu3, rfl⟩ := row_form hrow
              have Hr3 := Lib.hid hrow
              clear hrow
              by_cases hjl : jj < n5
              · have hrr := HQ.out.2.2
                obtain ⟨g5, d5, _, e5, _, _, _⟩ := row_addr hrr (by omega)
                simp only [Value.slice.injEq, true_and] at e5
                obtain ⟨rfl, rfl⟩ := e5
                have hcell := row_int hrr hjl
                obtain ⟨m, hm⟩ : ∃ m, m = L[jj]?.getD 0 := ⟨_, rfl⟩
                have Htk := Lib.hid (show (L.take (jj + 1)).filter (inB xn) = if inB xn m = true then (L.take jj).filter (inB xn) ++ [m] else (L.take jj).filter (inB xn) from by
                  have hkL : jj < L.length := by rw [← Hn5.out]; exact hjl
                  rw [List.take_succ_eq_append_getElem hkL, List.filter_append, hm, List.getElem?_eq_getElem hkL, Option.getD_some]
                  by_cases hb : inB xn L[jj] = true
                  · rw [if_pos hb, List.filter_cons_of_pos hb]; rfl
                  · rw [if_neg hb, List.filter_cons_of_neg hb]; simp)
                rw [← hm] at hcell
                clear hrr hm
                obtain ⟨hc1, hc2⟩ := HCell.out _ HQ.out.2.1.fr
                by_cases hm0 : m < 0
                · have HA := Lib.hid (show addAll (isOb s) o2 (leads x ((L.take (jj + 1)).filter (inB xn))) = o3 from by
                    rw [Htk.out, if_neg (by rw [inB_false (by omega)]; simp)]; exact HQ.out.1.symm)
                  go_wp2_with fail
                  go_quiet (fail)
                  have HQd := Lib.hid (fun n => (show Onto w (wr.drewN n) 2 nilRow (.slice au3 o3.length cu3) (o3.map (Value.int .i64)) ∧ (wr.drewN n).ownsRow 0 3 1 (.slice (some ⟨g5, 0, none⟩) n5 c5) n5 (L.map (Value.int .i64)) from ⟨HQ.out.2.1.drewN n, HQ.out.2.2⟩))
                  go_wp2
                  go_roundw
                  case rel => exact ⟨jj + 1, o3, by omega, by go_num, HA.out.symm, HQd.out _⟩
                  case measure => simp [intOf]; omega
                · obtain ⟨mm, rfl⟩ := Int.eq_ofNat_of_zero_le (show 0 ≤ m by omega)
                  by_cases hmx : mm < xn
                  · have HA := Lib.hid (show addAll (isOb s) o2 (leads x ((L.take (jj + 1)).filter (inB xn))) = addN (isOb s) o3 (getV (some x) mm) from by
                      rw [Htk.out, if_pos (inB_true (by omega) (by omega)), leads, List.map_append, addAll_append, HQ.out.1]; rfl)
                    have hxr := (HOC.out wr HQ.out.2.1.fr).row
                    rw [← Hxn.out] at hxr
                    obtain ⟨gx, dx, _, ex, _, _, _⟩ := row_addr hxr (by omega)
                    simp only [Value.slice.injEq, true_and] at ex
                    obtain ⟨rfl, rfl⟩ := ex
                    have hcx := row_int hxr hmx
                    obtain ⟨z, hz⟩ : ∃ z, z = x.vs[mm]?.getD 0 := ⟨_, rfl⟩
                    have hgz : getV (some x) (mm : Int) = z := by
                      unfold getV
                      simp only
                      rw [← Hxn.out, if_neg (by omega), List.getD_eq_getElem?_getD, Int.toNat_natCast]; exact hz.symm
                    rw [hgz] at HA
                    rw [← hz] at hcx
                    clear hxr hz hgz
                    have hml : decide ((mm : Int) ≥ (xn : Int)) = false := by simp; omega
                    have HOnr := Lib.hid (fun n => (And.intro (HQ.out.2.1.drewN n) (show (wr.drewN n).ownsRow 0 3 1 (.slice (some ⟨g5, 0, none⟩) n5 c5) n5 (L.map (Value.int .i64)) from HQ.out.2.2)))
                    have HRf := Lib.hid (fun n => H.out.1.keep (HOnr.out n).1.fr (fun _ _ h => h))
                    go_wp2_with fail
                    go_quiet (fail)
                    go_wp2_with fail
                    go_quiet (fail)
                    go_wp2_with fail
                    refine (refAt_any q z vl va hlr ha tl s _ (HRf.out _) H.out.2.1).mono ?_
                    rintro e w8 ⟨u, rfl, hf, hw8⟩
                    have H8 := Lib.hid (show Onto w w8 2 nilRow (.slice au3 o3.length cu3) (o3.map (Value.int .i64)) ∧ w8.ownsRow 0 3 1 (.slice (some ⟨g5, 0, none⟩) n5 c5) n5 (L.map (Value.int .i64)) from by rw [hw8]; exact HOnr.out _)
                    have hr8 := H8.out.1.1
                    rw [List.length_map] at hr8
                    have Hr8 := Lib.hid hr8
                    have ho3 : ∀ a ∈ o3, isOb s a = true := fun a ha => by
                      rw [HQ.out.1] at ha
                      rcases addAll_mem.1 ha with h | h
                      · rw [HP.out.1] at h; exact (reachK_good s T rts i).2 a h
                      · exact h.2
                    have hol3 : o3.length ≤ s.used.length := by
                      rw [← addrs_length s.used 0]
                      refine nodup_sub_len _ _ ?_ (fun a ha => (mem_addrs s.used 0 a).2 (ho3 a ha))
                      rw [HQ.out.1]
                      exact addAll_nodup (by rw [HP.out.1]; exact (reachK_good s T rts i).1)
                    have HI8 := Lib.hid (row_ints Hr8.out (fun a ha => isOb_I64 H.out.2.1 (ho3 a ha)))
                    have HSm := Lib.hid (standsIn_mem o3 z)
                    clear hw8 hr8 ho3 hc1 hc2 hcell hcx
                    rcases hf.is with ⟨bo, rfl, hobz⟩ | ⟨rfl, hobz⟩
                    · have HOb := Lib.hid hobz
                      clear hf hobz
                      go_wp2_with fail
                      refine (has_any _ _ _ _ z _ HI8.out).mono ?_
                      rw [HSm.out]
                      rintro e w9 ⟨rfl, rfl⟩
                      by_cases hin : z ∈ o3
                      · rw [decide_eq_true hin]
                        have HB := Lib.hid (show addAll (isOb s) o2 (leads x ((L.take (jj + 1)).filter (inB xn))) = o3 from by rw [HA.out, addN_skip (.inl hin)])
                        clear hin
                        go_wp2
                        go_roundw
                        case rel => exact ⟨jj + 1, o3, by omega, by go_num, HB.out.symm, H8.out⟩
                        case measure => simp [intOf]; omega
                      · rw [decide_eq_false hin]
                        have HB := Lib.hid (show addAll (isOb s) o2 (leads x ((L.take (jj + 1)).filter (inB xn))) = o3 ++ [z] from by rw [HA.out, addN_new HOb.out hin])
                        clear hin
                        go_wp2_with (first | (at_builtin; refine wpList_append_own_at _ rfl _ _ 38 rfl 0 2 i2 (.int .i64 0) 1 8 und38 hi2 hz2 hs2 hb2 rfl (by decide) _ _ _ rfl (Hr8.out.alloc _) ⟨w9.heap.size, 0, none⟩ 1 1 [.int .i64 z] rfl rfl (fun j u hu => cell_one_new _ _ _ j u hu) (by intro u hu; simp at hu; subst hu; rfl) (by unfold maxLen; omega) (by omega) (Nat.zero_le _) ?_))
                        intro v7 w7 hown7 hgr7 _ hloc7
                        have HG := Lib.hid (And.intro (H8.out.1.trans (Onto.one (x := .int .i64 z) (by rw [List.length_map]; exact hown7) hgr7 (by simpa using hloc7))) (show w7.ownsRow 0 3 1 (.slice (some ⟨g5, 0, none⟩) n5 c5) n5 (L.map (Value.int .i64)) from by
                          refine (Fr.of_grown (S := fun k => (Value.slice au3 o3.length cu3).ownBlock = some k) (grown_trans (World.grownBy_alloc w9 _ _) hgr7) (fun _ h => h)).row H8.out.2 (fun k hk e => ?_)
                          obtain ⟨ca, h1⟩ := row_cells H8.out.2 hk
                          obtain ⟨cb, h2⟩ := row_cells Hr8.out e
                          exact absurd (blk_ty h1 h2) (by decide)))
                        clear hown7 hgr7 hloc7
                        go_wp2
                        go_roundw
                        case rel => exact ⟨jj + 1, o3 ++ [z], by omega, by go_num, HB.out.symm, by rw [List.map_append]; exact HG.out.1, HG.out.2⟩
                        case measure => simp [intOf]; omega
                    · have HB := Lib.hid (show addAll (isOb s) o2 (leads x ((L.take (jj + 1)).filter (inB xn))) = o3 from by rw [HA.out, addN_skip (.inr hobz)])
                      clear hf hobz
                      go_wp2
                      go_roundw
                      case rel => exact ⟨jj + 1, o3, by omega, by go_num, HB.out.symm, H8.out⟩
                      case measure => simp [intOf]; omega
                  · have HA := Lib.hid (show addAll (isOb s) o2 (leads x ((L.take (jj + 1)).filter (inB xn))) = o3 from by
                      rw [Htk.out, if_neg (by rw [inB_false (by omega)]; simp)]; exact HQ.out.1.symm)
                    go_wp2_with fail
                    go_quiet (fail)
                    have HQd := Lib.hid (fun n => (show Onto w (wr.drewN n) 2 nilRow (.slice au3 o3.length cu3) (o3.map (Value.int .i64)) ∧ (wr.drewN n).ownsRow 0 3 1 (.slice (some ⟨g5, 0, none⟩) n5 c5) n5 (L.map (Value.int .i64)) from ⟨HQ.out.2.1.drewN n, HQ.out.2.2⟩))
                    go_wp2
                    go_roundw
                    case rel => exact ⟨jj + 1, o3, by omega, by go_num, HA.out.symm, HQd.out _⟩
                    case measure => simp [intOf]; omega
              · obtain rfl : jj = n5 := by omega
                have HE := Lib.hid (show o3 = reachK s T rts (i + 1) from by
                  rw [HGo.out, HQ.out.1, Hn5.out, List.take_length])
                have hle : i + 1 ≤ o3.length := by
                  rw [HQ.out.1]
                  have := (addAll_prefix (isOb s) (leads x ((L.take jj).filter (inB xn))) o2).length_le
                  omega
                clear Hr3
                go_wp2
                go_roundw
                case rel => exact ⟨i + 1, o3, hle, by go_num, HE.out, HQ.out.2.1⟩
                case measure => simp [intOf]; omega
          · exfalso
            have h1 := HY.out.2
            unfold isOb at h1
            rw [hfd] at h1
            cases h1
        · have HF := Lib.hid (show NewRow w wr 2 ((reach s T rts).map (Value.int .i64)) (.returned (.slice au2 o2.length cu2)) from by
            have e : o2 = reach s T rts := by
              rw [HP.out.1]; exact reachK_end s T rts i (by rw [← HP.out.1]; omega)
            rw [← e]
            exact ⟨_, rfl, HP.out.2.1, HP.out.2.fr, fun g hg => HP.out.2.new hg⟩)
          go_wp2
          go_ret
          exact HF.out
end Go.Proofs.Ytniifefmjdjebaa
namespace Go.Proofs.Ytniifefmjdjebaa
open Go.RowKit
set_option linter.unusedVariables false
set_option linter.unusedSimpArgs false
set_option maxRecDepth 100000 in
set_option maxHeartbeats 4000000 in
theorem refLive_any (q : Nat) (tv rv : Value) (rts : List Int) (R : Nat → Prop) (s : AS) (T : List (List Int)) (D : Nat → Prop) (rs : List Value) (w : World) (h : IsRef w q R s) (hg : s.Good) (ht : TabIs w tv T D rs) (hr : w.ownsRow 0 2 1 rv rts.length (rts.map (Value.int .i64))) (hl : rts.length ≤ 1048576) (hD : ∀ k, D k → k < w.heap.size) :
    Calls Try.prog 57 #[.pointer (some ⟨q, 0, none⟩), tv, rv] w fun e w' => e = .returned (.int .i64 (tot (objs s (reach s T rts)))) ∧ Fr (fun _ => False) w w' := by
  have hgs := hg.small
  have hlg := reach_good s T rts
  have hrl := reach_len s T rts
  have hlt := len_le_tot s.used
  have ht1 := objs_tot s _ hlg.1 hlg.2
  have H := Lib.hid (And.intro h (And.intro hg (And.intro ht (And.intro hr (And.intro hl hD))))); clear h hg ht hr hl hD
  obtain ⟨live, hlive⟩ : ∃ live, live = reach s T rts := ⟨_, rfl⟩
  have HL := Lib.hid hlive
  rw [← hlive] at hlg hrl ht1 ⊢
  clear hlive
  have HG := Lib.hid hlg
  clear hlg
  go_enter Try.func57, Try.ntmps57
  go_wp2_with fail
  refine (refReach_any q tv rv rts R s T D rs _ H.out.1 H.out.2.1 H.out.2.2.1 H.out.2.2.2.1 H.out.2.2.2.2.1 H.out.2.2.2.2.2).mono ?_
  rintro e w2 ⟨v2, rfl, q1, q2, q3⟩
  rw [← HL.out, List.length_map] at q1
  obtain ⟨a2, c2, rfl⟩ := row_form q1
  have H2 := Lib.hid (And.intro q1 q2)
  clear q1 q2 q3
  obtain ⟨n, hn⟩ : ∃ n, n = live.length := ⟨_, rfl⟩
  have Hn := Lib.hid hn
  rw [← hn] at H2 hrl ⊢
  clear hn
  go_wp2_with fail
  go_loopw [8, 9] (fun u i wz => ∃ (k : Nat), k ≤ n ∧ i = .int .i64 k ∧ u = .int .i64 (tot ((objs s live).take k) : Nat) ∧ wz = w2) (fun _ i _ => (n - intOf i).toNat)
  case atStart => exact ⟨0, by omega, rfl, by simp [tot_nil], rfl⟩
  case round =>
    obtain ⟨k, hk, rfl, rfl, rfl⟩ := hrel
    by_cases hlt : k < n
    · have hr := H2.out.1
      obtain ⟨g, c, _, e1, _, _, _⟩ := row_addr hr (by omega)
      simp only [Value.slice.injEq, true_and] at e1
      obtain ⟨rfl, rfl⟩ := e1
      have hcell := row_int hr hlt
      obtain ⟨y, hy⟩ : ∃ y, y = live[k]?.getD 0 := ⟨_, rfl⟩
      rw [← hy] at hcell
      have hkL : k < live.length := by rw [← Hn.out]; exact hlt
      have hyl : live[k]? = some y := by rw [hy, List.getElem?_eq_getElem hkL]; rfl
      have hob := isOb_some (HG.out.2 y (List.mem_of_getElem? hyl))
      have HX := Lib.hid hob
      have hko : k < (objs s live).length := by rw [objs_length]; exact hkL
      have hts := tot_take_succ (objs s live) k hko
      have hob2 : (objs s live)[k] = obAt s y := by
        have := objs_at s live k y hyl
        rw [List.getElem?_eq_getElem hko] at this
        exact Option.some.inj this
      rw [hob2] at hts
      have ht2 := tot_take_le (objs s live) (k + 1)
      obtain ⟨vl, va, hlr, ha, tl, h1, h2⟩ := H.out.1
      have HR := Lib.hid (h1.keep H2.out.2 (fun _ _ h => h))
      obtain ⟨vn, hvn⟩ : ∃ vn, vn = (obAt s y).vs.length := ⟨_, rfl⟩
      have Hvn := Lib.hid hvn
      obtain ⟨t1, ht1'⟩ : ∃ t, t = tot ((objs s live).take k) := ⟨_, rfl⟩
      obtain ⟨t2, ht2'⟩ : ∃ t, t = tot ((objs s live).take (k + 1)) := ⟨_, rfl⟩
      rw [← hvn, ← ht1', ← ht2'] at hts
      rw [← ht2'] at ht2
      have HT2 := Lib.hid ht2'
      rw [← ht1']
      have hts2 : t2 = t1 + 16 + 8 * vn := by omega
      have HTs := Lib.hid hts2
      have hb1 : t1 + 16 + 8 * vn ≤ 1048576 := by omega
      clear hr hy hkL hyl hob hko hts hob2 hvn ht1' ht2' hts2 h1 h2
      go_wp2_with fail
      refine (refAt_any q y vl va hlr ha tl s _ HR.out H.out.2.1).mono ?_
      rintro e w3 ⟨u, rfl, hf, rfl⟩
      rcases hf with ⟨j, oo, x, hj, hx, _, hfd, rfl⟩ | ⟨hfd, rfl⟩
      · rw [HX.out] at hfd
        obtain rfl := Option.some.inj hfd
        have hoc := HR.out.used.obs j oo _ hj hx
        have hc2 := blk_cell hoc.cells 2
        simp only [List.getElem?_toArray, List.getElem?_cons_succ, List.getElem?_cons_zero] at hc2
        obtain ⟨ob, ov⟩ := oo
        obtain ⟨avx, cvx, hov⟩ := row_form hoc.row
        rw [← Hvn.out] at hov
        simp only at hov
        subst hov
        simp only [optr] at hc2 ⊢
        clear hoc hj hx hfd
        go_wp2
        go_roundw
        case rel => exact ⟨k + 1, by omega, by go_num, by rw [← HT2.out, HTs.out]; rfl, by trivial⟩
        case measure => simp [intOf]; omega
      · exfalso
        rw [HX.out] at hfd
        cases hfd
    · obtain rfl : k = n := by omega
      have HF := Lib.hid (show tot ((objs s live).take k) = tot (objs s live) from by rw [List.take_of_length_le (by rw [objs_length, ← Hn.out]; exact Nat.le_refl _)])
      obtain ⟨t1, ht1'⟩ : ∃ t, t = tot ((objs s live).take k) := ⟨_, rfl⟩
      rw [← ht1']
      have HT := Lib.hid ht1'
      clear ht1'
      go_wp2
      go_ret
      exact ⟨by rw [← HF.out, ← HT.out]; rfl, H2.out.2⟩
end Go.Proofs.Ytniifefmjdjebaa
