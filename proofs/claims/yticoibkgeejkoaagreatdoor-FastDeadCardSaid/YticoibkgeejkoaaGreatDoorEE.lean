/- Drawn regions: lights and allocations are had ahead, heavy ones come in one order; whatever order is drawn. · Drawn regions: whatever order is drawn. · Drawn regions: plans made and checked. · Loops over maps, whatever order the entries come in: rounds that leave all as it was. · Loops over maps: the loop. · Ranges over functions; code, functions, the whole. · Hooks: a function that answers by its law; forks over the values that an answer can have. · Code cut into parts: what lives is handed on. -/
import Derived.Test.YticoibkgeejkoaaGreatDoorED
import Derived.KernelRfl
set_option linter.unusedVariables false
set_option linter.unusedSimpArgs false
namespace Go.Proofs.YticoibkgeejkoaaGreatDoor
namespace Ev
set_option linter.unusedVariables false
noncomputable section
variable {ρ : Nat → Value} {P : Program} {N : Nat}
theorem getD_set_same {tm : Array Value} {t : Nat} {v : Value} (ht : t < tm.size) : (tm.setIfInBounds t v).getD t undef = v := by
  simp [Array.getD_eq_getD_getElem?, Array.getElem?_setIfInBounds, ht]
theorem getD_set_other {tm : Array Value} {t u : Nat} {v : Value} (ht : t ≠ u) : (tm.setIfInBounds t v).getD u undef = tm.getD u undef := by
  simp [Array.getD_eq_getD_getElem?, Array.getElem?_setIfInBounds, ht]
theorem NT.of_gets (F : NT) : NT.of (fun p q => tget p q F) = F := rfl
theorem NT.ext_gets {F F' : NT} (h : ∀ p q, tget p q F' = tget p q F) : F' = F := by
  rw [← NT.of_gets F', ← NT.of_gets F]
  congr 1
  funext p q
  exact h p q
def spl (d : Option Nat) (k : NT → Bool) (F : NT) : Bool := tall (Option.rec (motive := fun _ => Bool) (k F) (fun d => ((plOf d).get F).boolKT ((plOf d).set k F (.bool true)) ((plOf d).set k F (.bool false))) d)
theorem spl_true {d : Option Nat} {k : NT → Bool} {F : NT} (e : spl d k F = true) : k F = true := by
  cases d with
  | none => exact e
  | some d =>
    have key : ∀ b : Bool, (plOf d).get F = .bool b → (plOf d).set k F (.bool b) = true → k F = true := fun b hb e => by
      obtain ⟨F', e, e1, e2⟩ := tset_true (show tset (plOf d).p (plOf d).q (.bool b) k F = true from e)
      have : F' = F := NT.ext_gets fun p q => by
        by_cases hpq : p = (plOf d).p ∧ q = (plOf d).q
        · obtain ⟨rfl, rfl⟩ := hpq
          rw [e1, ← hb]
          rfl
        · exact e2 p q (by
            by_cases hp : p = (plOf d).p
            · exact .inr fun hq => hpq ⟨hp, hq⟩
            · exact .inl hp)
      rw [← this]
      exact e
    have e : ((plOf d).get F).boolKT ((plOf d).set k F (.bool true)) ((plOf d).set k F (.bool false)) = true := e
    rcases AV.boolK_true ((AV.boolKT_eq _ _ _).symm.trans e) with ⟨hb, e⟩ | ⟨hb, e⟩
    · exact key true hb e
    · exact key false hb e
structure It where
  i : Nat
  o : Oper
  t : Nat
  cl : Cl
  al : Option Al
  sp : Option Nat := none
structure It.Fit (P : Program) (ρ : Nat → Value) (N : Nat) (ops : Array Oper) (x : It) : Prop where
  at_ : ops[x.i]? = some x.o
  dst : x.o.dst = some x.t
  lt : x.t < N
  lt2 : x.t < 256
  lit : x.al = none → ∀ (ch : CH) (F : NT) (h : Hp) (c : AV → Hp → Bool) (g : G) (a : Act) (w : World), x.cl.run ch F h c = true → Lk ρ N ops x.o g F a → HR ρ g h w →
    ∃ av v, ((semO ops a x.o).run P w = .ok (.value v) w ∨ ((semO ops a x.o).run P w = .ok .skip w ∧ v = undef)) ∧ VR ρ g av v ∧ c av h = true
  alc : ∀ al, x.al = some al → x.o.guard = none ∧ Al.ok P ρ N x.o al ∧ Al.dep x.o al
def chk (v a : AV) (_ : Hp) : Bool := avEq a v
def PA (g : G) (F : NT) (h : Hp) (n0 : Nat) (l : L) (x : It) : Prop := ∀ al, x.al = some al → ∃ obj kd, al.run F = some (obj, kd) ∧ (plOf x.t).get F = kd.av l ∧ g.blk l = none ∧ (h.get l = obj ∨ h.get l = .none) ∧ l.num < h.nx.num ∧ n0 ≤ l.num
structure GB (P : Program) (ρ : Nat → Value) (N : Nat) (n0 : Nat) (g : G) (F : NT) (h : Hp) (w : World) (S : Nat → Prop) (E : List It) (lab : Nat → L) (tm : Array Value) : Prop where
  hr : HR ρ g h w
  sz : N ≤ tm.size
  vr : ∀ p q : D, (∀ x ∈ E, ¬ S x.i → x.t ≠ 16 * p.num + q.num) → VR ρ g (tget p q F) (tm.getD (16 * p.num + q.num) undef)
  pa : ∀ x ∈ E, ¬ S x.i → PA g F h n0 (lab x.i) x
  inj : ∀ x ∈ E, ∀ y ∈ E, ¬ S x.i → ¬ S y.i → x.al ≠ none → y.al ≠ none → lab x.i = lab y.i → x.i = y.i
def LF (ch : CH) (F : NT) (h : Hp) (S : Nat → Prop) (E : List It) : Prop := ∀ x ∈ E, ¬ S x.i → x.al = none → x.cl.run ch F h (chk ((plOf x.t).get F)) = true
theorem GB.lk {n0 : Nat} {g : G} {F : NT} {h : Hp} {w : World} {S : Nat → Prop} {E : List It} {lab : Nat → L} {a : Act} {ops : Array Oper} {o : Oper} (G : GB P ρ N n0 g F h w S E lab a.tmps)
    (hu : ∀ y ∈ E, ¬ S y.i → Operand.tmp y.t ∉ looks ops o) : Lk ρ N ops o g F a := by
  refine ⟨G.sz, fun x hx => ?_⟩
  cases x with
  | tmp t =>
    simp only [rdOf]
    split
    · rename_i hb
      have ht : t < 256 := Nat.le_of_ble_eq_true hb
      have := G.vr (plOf t).p (plOf t).q (fun y hy hyS he => by
        rw [plOf_num ht] at he
        exact hu y hy hyS (by rw [he]; exact hx))
      rw [plOf_num ht] at this
      exact this
    · exact .undef _
  | const v => exact ofV_ok g v
  | global _ => exact .undef _
  | func f => exact .fn _ _ _ _ _ .nil .nil
theorem GB.put {n0 : Nat} {g g' : G} {F : NT} {h : Hp} {w w' : World} {S : Nat → Prop} {E : List It} {lab : Nat → L} {tm : Array Value} {x : It} {v : Value} (G : GB P ρ N n0 g F h w S E lab tm) (hlt : x.t < N) (hlt2 : x.t < 256) (hle : g.le g') (hr : HR ρ g' h w')
    (hsame : ∀ y ∈ E, y.i = x.i → y.t = x.t) (hpa : ∀ y ∈ E, ¬ (S y.i ∨ y.i = x.i) → y.al ≠ none → g'.blk (lab y.i) = none) (hv : VR ρ g' ((plOf x.t).get F) v) : GB P ρ N n0 g' F h w' (fun j => S j ∨ j = x.i) E lab (tm.setIfInBounds x.t v) := by
  have hsz : x.t < tm.size := Nat.lt_of_lt_of_le hlt G.sz
  refine ⟨hr, by rw [Array.size_setIfInBounds]; exact G.sz, fun p q hpq => ?_, fun y hy hyS al hal => ?_, fun y hy z hz hyS hzS => G.inj y hy z hz (fun h => hyS (.inl h)) fun h => hzS (.inl h)⟩
  · by_cases he : x.t = 16 * p.num + q.num
    · have hpl := plOf_num hlt2
      have k1 := D.num_lt p; have k2 := D.num_lt q; have k3 := D.num_lt (plOf x.t).p; have k4 := D.num_lt (plOf x.t).q
      have e1 : (plOf x.t).p = p := D.num_inj (by omega)
      have e2 : (plOf x.t).q = q := D.num_inj (by omega)
      rw [← he, getD_set_same hsz]
      unfold Pl.get at hv
      rw [e1, e2] at hv
      exact hv
    · rw [getD_set_other he]
      refine (G.vr p q fun y hy hyS hyt => ?_).mono hle
      by_cases hyx : y.i = x.i
      · exact he (by rw [← hsame y hy hyx]; exact hyt)
      · exact hpq y hy (fun h => h.elim hyS hyx) hyt
  · obtain ⟨obj, kd, a1, a2, a3, a4, a5, a6⟩ := G.pa y hy (fun h => hyS (.inl h)) al hal
    exact ⟨obj, kd, a1, a2, hpa y hy hyS (by rw [hal]; simp), a4, a5, a6⟩
theorem fit_same {ops : Array Oper} {x y : It} (hx : x.Fit P ρ N ops) (hy : y.Fit P ρ N ops) (h : y.i = x.i) : y.t = x.t := by
  have h1 := hy.at_
  rw [h, hx.at_] at h1
  have h2 := hy.dst
  rw [← Option.some.inj h1, hx.dst] at h2
  exact (Option.some.inj h2).symm
section
variable {ro : Option Nat} {ops : Array Oper} {n0 : Nat} {g : G} {F : NT} {h : Hp} {w : World} {S : Nat → Prop} {E : List It} {lab : Nat → L} {a : Act} {ch : CH} {K : Act → World → Prop} {Q : Exit → Act → World → Prop}
theorem light_step {x : It} (G : GB P ρ N n0 g F h w S E lab a.tmps) (hE : ∀ y ∈ E, y.Fit P ρ N ops) (LL : LF ch F h S E) (hx : x ∈ E) (hs : ¬ S x.i) (hal : x.al = none) (hu : ∀ y ∈ E, ¬ S y.i → Operand.tmp y.t ∉ looks ops x.o)
    (hn : ∀ a', a'.defers = a.defers → GB P ρ N n0 g F h w (fun j => S j ∨ j = x.i) E lab a'.tmps → LF ch F h (fun j => S j ∨ j = x.i) E → K a' w) : wpOpIn (FK ro) 0 P ops Q x.i K a w := by
  have hf := hE x hx
  obtain ⟨av, v, r1, r2, r3⟩ := hf.lit hal ch F h _ g a w (LL x hx hs hal) (G.lk hu) G.hr
  have r3 := avEq_true (show avEq av ((plOf x.t).get F) = true from r3)
  subst r3
  refine wpOp_of (K' := fun v' w' => v' = v ∧ w' = w) hf.at_ ?_ fun v' w' ⟨e1, e2⟩ => ?_
  · rcases r1 with r1 | ⟨r1, rfl⟩
    · rw [r1]; exact ⟨rfl, rfl⟩
    · rw [r1]; exact ⟨rfl, rfl⟩
  · subst e1; subst e2
    rw [hf.dst]
    refine hn _ rfl (G.put hf.lt hf.lt2 g.le_refl G.hr (fun y hy e => fit_same hf (hE y hy) e) (fun y hy hyS hya => ?_) r2) fun y hy hyS hya => LL y hy (fun h => hyS (.inl h)) hya
    obtain ⟨al, hal'⟩ := Option.ne_none_iff_exists'.1 hya
    obtain ⟨obj, kd, _, _, a3, _⟩ := G.pa y hy (fun h => hyS (.inl h)) al hal'
    exact a3
theorem al_step {x : It} {al : Al} (G : GB P ρ N n0 g F h w S E lab a.tmps) (hE : ∀ y ∈ E, y.Fit P ρ N ops) (LL : LF ch F h S E) (hx : x ∈ E) (hs : ¬ S x.i) (hal : x.al = some al) (hu : ∀ y ∈ E, ¬ S y.i → Operand.tmp y.t ∉ looks ops x.o)
    (hn : ∀ a' g' w', a'.defers = a.defers → StA ρ (lab x.i) g h w g' w' → n0 ≤ (lab x.i).num → GB P ρ N n0 g' F h w' (fun j => S j ∨ j = x.i) E lab a'.tmps → LF ch F h (fun j => S j ∨ j = x.i) E → K a' w') : wpOpIn (FK ro) 0 P ops Q x.i K a w := by
  have hf := hE x hx
  obtain ⟨f1, f2, f3⟩ := hf.alc al hal
  obtain ⟨obj, kd, a1, a2, a3, a4, a5, a6⟩ := G.pa x hx hs al hal
  have hlk := G.lk hu
  have hat : At x.o (maskF (looks ops x.o) F) F := fun z hz => mask_at (looks_ops hz)
  obtain ⟨v, g', w', r1, r2, r3⟩ := f2 (maskF (looks ops x.o) F) obj kd (by rw [f3 _ F hat]; exact a1) (lab x.i) g a w h (mask_fr hlk.1 hlk.2) G.hr a3 a4 a5
  refine wpOp_of (K' := fun v' w'' => v' = v ∧ w'' = w') hf.at_ (by rw [semO_none f1, r1]; exact ⟨rfl, rfl⟩) fun v' w'' ⟨e1, e2⟩ => ?_
  subst e1; subst e2
  rw [hf.dst]
  refine hn _ g' w'' rfl r2 a6 (G.put hf.lt hf.lt2 r2.le r2.hr (fun y hy e => fit_same hf (hE y hy) e) (fun y hy hyS hya => ?_) (by rw [a2]; exact r3)) fun y hy hyS hya => LL y hy (fun h => hyS (.inl h)) hya
  obtain ⟨al', hal'⟩ := Option.ne_none_iff_exists'.1 hya
  obtain ⟨obj', kd', _, _, b3, _⟩ := G.pa y hy (fun h => hyS (.inl h)) al' hal'
  refine r2.un _ (fun e => hyS (.inr ?_)) b3
  exact G.inj y hy x hx (fun h => hyS (.inl h)) hs hya (by rw [hal]; simp) e
end
theorem Step.late {g0 g g' : G} {h0 h : Hp} {w0 w w' : World} {l : L} (s : Step ρ g0 h0 w0 g h w) (hl : h0.nx.num ≤ l.num) (t : StA ρ l g h w g' w') : Step ρ g0 h0 w0 g' h w' :=
  ⟨G.le_trans s.le t.le, t.hr, t.os.trans s.os, t.tape.trans s.tape, t.output.trans s.output, Nat.le_trans s.size t.size, fun b hb hf => by
    obtain ⟨h1, h2⟩ := s.fr b hb hf
    obtain ⟨h3, h4⟩ := t.fr b (Nat.lt_of_lt_of_le hb s.size)
    exact ⟨h3.trans h1, h4 h2⟩, s.nx, fun l' hl' hn => by
    obtain ⟨h1, h2⟩ := s.un l' hl' hn
    exact ⟨t.un l' (fun e => by subst e; omega) h1, h2⟩, s.fl, s.ke⟩
structure Nm (h h' : Hp) : Prop where
  nx : h.nx.num ≤ h'.nx.num
  get : ∀ l, l.num < h.nx.num → h'.get l = h.get l
  fl : h'.fl = h.fl
theorem Nm.refl (h : Hp) : Nm h h := ⟨Nat.le_refl _, fun _ _ => rfl, rfl⟩
theorem Nm.trans {a b c : Hp} (x : Nm a b) (y : Nm b c) : Nm a c := ⟨Nat.le_trans x.nx y.nx, fun l hl => (y.get l (Nat.lt_of_lt_of_le hl x.nx)).trans (x.get l hl), y.fl.trans x.fl⟩
theorem HR.nm {g : G} {h h' : Hp} {w : World} (hr : HR ρ g h w) (n : Nm h h') : HR ρ g h' w :=
  ⟨fun l b c hb => by rw [n.get l (hr.nx _ _ hb)]; exact hr.ob l b c hb, fun l l' b c c' h1 h2 n1 n2 => by
    rw [n.get l (hr.nx _ _ h1)] at n1
    rw [n.get l' (hr.nx _ _ h2)] at n2
    exact hr.inj l l' b c c' h1 h2 n1 n2, hr.lt, fun l p hp => Nat.lt_of_lt_of_le (hr.nx l p hp) n.nx⟩
theorem Step.nm {g0 g : G} {h0 h h' : Hp} {w0 w : World} (s : Step ρ g0 h0 w0 g h w) (hf : h.fl ≤ h.nx.num) (n : Nm h h') : Step ρ g0 h0 w0 g h' w :=
  ⟨s.le, s.hr.nm n, s.os, s.tape, s.output, s.size, fun b hb hf => by
    obtain ⟨h1, h2⟩ := s.fr b hb hf
    exact ⟨h1, fun l c hl => by rw [n.get l (s.hr.nx _ _ hl)]; exact h2 l c hl⟩, Nat.le_trans s.nx n.nx, fun l hl hg => by
    obtain ⟨h1, h2⟩ := s.un l hl hg
    exact ⟨h1, by rw [n.get l (Nat.lt_of_lt_of_le hl s.nx)]; exact h2⟩, n.fl.trans s.fl, fun l hl => by
    rw [n.get l (by have := s.fl; omega)]; exact s.ke l hl⟩
theorem rd_set {F F' : NT} {t : Nat} {v : AV} (ht : t < 256) (e : ∀ x y, (x ≠ (plOf t).p ∨ y ≠ (plOf t).q) → tget x y F' = tget x y F) {z : Operand} (hz : z ≠ .tmp t) : (rdOf z).get F' = (rdOf z).get F := by
  cases z with
  | tmp u =>
    simp only [rdOf]
    split
    · rename_i hb
      have hu : u < 256 := Nat.le_of_ble_eq_true hb
      refine e _ _ ?_
      by_cases h1 : (plOf u).p = (plOf t).p
      · refine .inr fun h2 => hz ?_
        have a := plOf_num hu
        have b := plOf_num ht
        rw [h1, h2] at a
        rw [a] at b
        rw [b]
      · exact .inl h1
    · rfl
  | const v => rfl
  | global _ => rfl
  | func f => rfl
def Ok (ops : Array Oper) (E : List It) (d : Nat) : Prop := ∀ y ∈ E, y.al ≠ none → d ≠ y.t ∧ Operand.tmp d ∉ looks ops y.o
theorem pl_other {t u : Nat} (ht : t < 256) (hu : u < 256) (h : t ≠ u) : (plOf u).p ≠ (plOf t).p ∨ (plOf u).q ≠ (plOf t).q := by
  by_cases h1 : (plOf u).p = (plOf t).p
  · refine .inr fun h2 => h ?_
    have a := plOf_num hu
    have b := plOf_num ht
    rw [h1, h2] at a
    omega
  · exact .inl h1
theorem PA.set {g : G} {F F' : NT} {h : Hp} {n0 : Nat} {l : L} {x : It} {t : Nat} {ops : Array Oper} (hf : x.Fit P ρ N ops) (p : PA g F h n0 l x) (ht : t < 256) (hok : x.al ≠ none → t ≠ x.t ∧ Operand.tmp t ∉ looks ops x.o) (e : ∀ a b, (a ≠ (plOf t).p ∨ b ≠ (plOf t).q) → tget a b F' = tget a b F) : PA g F' h n0 l x := fun al hal => by
  obtain ⟨obj, kd, a1, a2, a3⟩ := p al hal
  obtain ⟨o1, o2⟩ := hok (by rw [hal]; simp)
  obtain ⟨f1, f2, f3⟩ := hf.alc al hal
  refine ⟨obj, kd, ?_, ?_, a3⟩
  · rw [← a1]
    exact f3 _ _ fun z hz => rd_set (v := .undef) ht e fun hzt => o2 (by rw [← hzt]; exact looks_ops hz)
  · rw [← a2]
    exact e _ _ (pl_other ht hf.lt2 o1)
def firstsK : List It → CH → Hp → (NT → Hp → Bool) → NT → Bool
  | [], _, h, k, F => k F h
  | x :: l, ch, h, k, F => spl x.sp (fun F => match x.al with
    | none => both (!(x.cl.run ch F h fun _ _ => false)) (x.cl.run ch F h fun v _ => (plOf x.t).set (firstsK l ch h k) F v)
    | some al => match al.run F with
      | none => false
      | some (obj, kd) => h.new obj fun h' => (plOf x.t).set (firstsK l ch h' k) F (kd.av h.nx)) F
def FsOk (P : Program) (ρ : Nat → Value) (N : Nat) (ops : Array Oper) : List It → List It → Prop
  | _, [] => True
  | E, x :: l => x.Fit P ρ N ops ∧ Ok ops E x.t ∧ (x.al ≠ none → Operand.tmp x.t ∉ looks ops x.o) ∧ (∀ y ∈ E, y.i ≠ x.i) ∧ FsOk P ρ N ops (E ++ [x]) l
theorem run_some {cl : Cl} {ch : CH} {F : NT} {h : Hp} {k : AV → Hp → Bool} (h1 : (!(cl.run ch F h fun _ _ => false)) = true) (h2 : cl.run ch F h k = true) : ∃ v h', k v h' = true := by
  refine Classical.byContradiction fun hn => ?_
  have : k = fun _ _ => false := by
    funext v h'
    cases hk : k v h' with
    | false => rfl
    | true => exact absurd ⟨v, h', hk⟩ hn
  rw [this] at h2
  rw [h2] at h1
  cases h1
theorem firsts_ok {ops : Array Oper} {ch : CH} {k : NT → Hp → Bool} {n0 : Nat} {g : G} {w : World} {S : Nat → Prop} {tm : Array Value} : ∀ (l E : List It) (F : NT) (h : Hp) (lab : Nat → L), GB P ρ N n0 g F h w S E lab tm → n0 ≤ h.nx.num → firstsK l ch h k F = true →
    (∀ x ∈ E, x.Fit P ρ N ops) → (∀ x ∈ l, ¬ S x.i) → FsOk P ρ N ops E l → ∃ F' h' lab', GB P ρ N n0 g F' h' w S (E ++ l) lab' tm ∧ Nm h h' ∧ (h.fl ≤ h.nx.num ∨ h' = h) ∧ k F' h' = true
  | [], E, F, h, lab, G, hn0, e, _, _, _ => ⟨F, h, lab, by rw [List.append_nil]; exact G, .refl h, .inr rfl, e⟩
  | x :: l, E, F, h, lab, G, hn0, e, hE, hS, hc => by
    obtain ⟨hx, c1, c2, c3, c4⟩ := hc
    have hE' : ∀ y ∈ E ++ [x], y.Fit P ρ N ops := fun y hy => by
      rcases List.mem_append.1 hy with hy | hy
      · exact hE y hy
      · rw [List.mem_singleton.1 hy]; exact hx
    have hS' : ∀ y ∈ l, ¬ S y.i := fun y hy => hS y (List.mem_cons_of_mem _ hy)
    have hvr : ∀ F1 : NT, (∀ a b, (a ≠ (plOf x.t).p ∨ b ≠ (plOf x.t).q) → tget a b F1 = tget a b F) → ∀ p q : D, (∀ y ∈ E ++ [x], ¬ S y.i → y.t ≠ 16 * p.num + q.num) → VR ρ g (tget p q F1) (tm.getD (16 * p.num + q.num) undef) := fun F1 g2 p q hpq => by
      have hne : x.t ≠ 16 * p.num + q.num := hpq x (by simp) (hS x List.mem_cons_self)
      rw [g2 p q (by
        by_cases h1 : p = (plOf x.t).p
        · refine .inr fun h2 => hne ?_
          rw [h1, h2, plOf_num hx.lt2]
        · exact .inl h1)]
      exact G.vr p q fun y hy => hpq y (List.mem_append_left _ hy)
    unfold firstsK at e
    replace e := spl_true e
    split at e
    · rename_i hal
      obtain ⟨e1, e⟩ := both_true e
      obtain ⟨v, _, e⟩ := run_some e1 e
      obtain ⟨F1, e, g1, g2⟩ := tset_true e
      have G1 : GB P ρ N n0 g F1 h w S (E ++ [x]) lab tm := by
        refine ⟨G.hr, G.sz, hvr F1 g2, fun y hy hyS => ?_, fun y hy z hz hyS hzS hya hza => ?_⟩
        · rcases List.mem_append.1 hy with hy | hy
          · exact (G.pa y hy hyS).set (hE y hy) hx.lt2 (c1 y hy) g2
          · rw [List.mem_singleton.1 hy]
            exact fun al hal' => by rw [hal] at hal'; cases hal'
        · rcases List.mem_append.1 hy with hy | hy
          · rcases List.mem_append.1 hz with hz | hz
            · exact G.inj y hy z hz hyS hzS hya hza
            · rw [List.mem_singleton.1 hz] at hza; exact absurd hal hza
          · rw [List.mem_singleton.1 hy] at hya; exact absurd hal hya
      obtain ⟨F', h', lab', G2, n2, n3, e⟩ := firsts_ok l (E ++ [x]) F1 h lab G1 hn0 e hE' hS' c4
      rw [List.append_assoc] at G2
      exact ⟨F', h', lab', G2, n2, n3, e⟩
    · rename_i al hal
      split at e
      · exact Bool.noConfusion e
      · rename_i obj kd hrun
        obtain ⟨h1, e, m1, m2, m3, m4⟩ := Hp.new_true e
        obtain ⟨F1, e, g1, g2⟩ := tset_true e
        have hnm : Nm h h1 := ⟨by omega, fun l' hl' => by rw [m2, if_neg fun e => by rw [e] at hl'; omega], m3⟩
        have hlab : ∀ y ∈ E, (if y.i = x.i then h.nx else lab y.i) = lab y.i := fun y hy => by rw [if_neg (c3 y hy)]
        obtain ⟨f1, f2, f3⟩ := hx.alc al hal
        have hxt : Operand.tmp x.t ∉ looks ops x.o := c2 (by rw [hal]; simp)
        have G1 : GB P ρ N n0 g F1 h1 w S (E ++ [x]) (fun i => if i = x.i then h.nx else lab i) tm := by
          refine ⟨G.hr.nm hnm, G.sz, hvr F1 g2, fun y hy hyS => ?_, fun y hy z hz hyS hzS hya hza => ?_⟩
          · rcases List.mem_append.1 hy with hy | hy
            · simp only [hlab y hy]
              intro al' hal'
              obtain ⟨obj', kd', a1, a2, a3, a4, a5, a6⟩ := (G.pa y hy hyS).set (hE y hy) hx.lt2 (c1 y hy) g2 al' hal'
              exact ⟨obj', kd', a1, a2, a3, by rw [hnm.get _ a5]; exact a4, by omega, a6⟩
            · rw [List.mem_singleton.1 hy]
              simp only [if_true]
              intro al' hal'
              rw [hal] at hal'
              cases hal'
              refine ⟨obj, kd, ?_, g1, G.hr.fresh, .inl (by rw [m2, if_pos rfl]), by omega, hn0⟩
              rw [← hrun]
              exact f3 _ _ fun z hz => rd_set (v := .undef) hx.lt2 g2 fun hzt => hxt (by rw [← hzt]; exact looks_ops hz)
          · have key : ∀ y ∈ E, ¬ S y.i → y.al ≠ none → lab y.i ≠ h.nx := fun y hy hyS hya he => by
              obtain ⟨al', hal'⟩ := Option.ne_none_iff_exists'.1 hya
              obtain ⟨_, _, _, _, _, _, a5, _⟩ := G.pa y hy hyS al' hal'
              rw [he] at a5; omega
            rcases List.mem_append.1 hy with hy | hy <;> rcases List.mem_append.1 hz with hz | hz
            · simp only [hlab y hy, hlab z hz]
              exact G.inj y hy z hz hyS hzS hya hza
            · rw [List.mem_singleton.1 hz]
              simp only [hlab y hy, if_true]
              exact fun he => absurd he (key y hy hyS hya)
            · rw [List.mem_singleton.1 hy]
              simp only [hlab z hz, if_true]
              exact fun he => absurd he.symm (key z hz hzS hza)
            · rw [List.mem_singleton.1 hy, List.mem_singleton.1 hz]; exact fun _ => rfl
        obtain ⟨F', h', lab', G2, n2, n3, e⟩ := firsts_ok l (E ++ [x]) F1 h1 _ G1 (by omega) e hE' hS' c4
        rw [List.append_assoc] at G2
        exact ⟨F', h', lab', G2, hnm.trans n2, .inl m4, e⟩
def agK : List It → CH → Hp → NT → Bool → Bool
  | [], _, _, _, k => k
  | x :: l, ch, h, F, k => both (x.cl.run ch F h (chk ((plOf x.t).get F))) (agK l ch h F k)
theorem agK_true {ch : CH} {h : Hp} {F : NT} {k : Bool} : ∀ {l : List It}, agK l ch h F k = true → (∀ x ∈ l, x.cl.run ch F h (chk ((plOf x.t).get F)) = true) ∧ k = true
  | [], e => ⟨fun x hx => absurd hx List.not_mem_nil, e⟩
  | x :: l, e => by
    obtain ⟨e1, e2⟩ := both_true e
    obtain ⟨e3, e4⟩ := agK_true (l := l) e2
    refine ⟨fun y hy => ?_, e4⟩
    rcases List.mem_cons.1 hy with rfl | hy
    · exact e1
    · exact e3 y hy
structure Hv where
  i : Nat
  o : Oper
  cl : Cl
  dst : Option Nat
  fs : List It
  ag : List It
  sp : Option Nat := none
def hvSet (d : Option Nat) (k : NT → Bool) (F : NT) (v : AV) : Bool := tall (Option.rec (motive := fun _ => Bool) (k F) (fun t => (plOf t).set k F v) d)
def drK : List Hv → CH → Hp → (NT → Hp → Bool) → NT → Bool
  | [], _, h, k, F => k F h
  | x :: l, ch, h, k, F => spl x.sp (fun F => x.cl.run ch F h fun v h => hvSet x.dst (firstsK x.fs ch h fun F h => agK x.ag ch h F (drK l ch h k F)) F v) F
structure Hv.Fit (P : Program) (ρ : Nat → Value) (N : Nat) (ops : Array Oper) (x : Hv) : Prop where
  at_ : ops[x.i]? = some x.o
  dst : x.o.dst = x.dst
  lt : ∀ t, x.dst = some t → t < N ∧ t < 256
  ok : ∀ (ch : CH) (F : NT) (h : Hp) (c : AV → Hp → Bool) (g : G) (a : Act) (w : World), CHok P ρ ch → x.cl.run ch F h c = true → Lk ρ N ops x.o g F a → HR ρ g h w → GDid P ρ ops g h w x.o a c
theorem phase_step {ro : Option Nat} {ops : Array Oper} {n0 : Nat} {g : G} {F : NT} {h : Hp} {w : World} {S : Nat → Prop} {E : List It} {lab : Nat → L} {a : Act} {x : Hv} {l : List Hv} {ch : CH} {k : NT → Hp → Bool} {K : Act → World → Prop} {Q : Exit → Act → World → Prop} (G : GB P ρ N n0 g F h w S E lab a.tmps) (hn0 : n0 ≤ h.nx.num)
    (hx : x.Fit P ρ N ops) (hch : CHok P ρ ch) (e : drK (x :: l) ch h k F = true) (hE : ∀ y ∈ E, y.Fit P ρ N ops) (hu : ∀ y ∈ E, ¬ S y.i → Operand.tmp y.t ∉ looks ops x.o) (hd : ∀ t, x.dst = some t → Ok ops E t)
    (hlive : ∀ y ∈ E ++ x.fs, ¬ (S y.i ∨ y.i = x.i) → y.al = none → y ∈ x.ag) (hfS : ∀ y ∈ x.fs, ¬ (S y.i ∨ y.i = x.i)) (hfs : FsOk P ρ N ops E x.fs)
    (hn : ∀ a' g' F' h' h1 w' lab', a'.defers = a.defers → Step ρ g h w g' h1 w' → Nm h1 h' → (h1.fl ≤ h1.nx.num ∨ h' = h1) → GB P ρ N n0 g' F' h' w' (fun j => S j ∨ j = x.i) (E ++ x.fs) lab' a'.tmps → LF ch F' h' (fun j => S j ∨ j = x.i) (E ++ x.fs) → drK l ch h' k F' = true → K a' w') : wpOpIn (FK ro) 0 P ops Q x.i K a w := by
  replace e := spl_true (show spl x.sp (fun F => x.cl.run ch F h fun v h => hvSet x.dst (firstsK x.fs ch h fun F h => agK x.ag ch h F (drK l ch h k F)) F v) F = true from e)
  refine wpOp_of (K' := fun v w' => K (a.put x.o.dst v) w') hx.at_ (hx.ok ch F h _ g a w hch e (G.lk hu) G.hr _ fun av v g' h1 w' s hv hc => ?_) fun _ _ h => h
  have hstay : ∀ y ∈ E, ¬ (S y.i ∨ y.i = x.i) → ∀ F1 : NT, (PA g F1 h n0 (lab y.i) y) → PA g' F1 h1 n0 (lab y.i) y := fun y hy hyS F1 p al hal => by
    obtain ⟨obj, kd, a1, a2, a3, a4, a5, a6⟩ := p al hal
    obtain ⟨u1, u2⟩ := s.un _ a5 a3
    refine ⟨obj, kd, a1, a2, u1, ?_, Nat.lt_of_lt_of_le a5 s.nx, a6⟩
    rcases u2 with u2 | u2
    · rw [u2]; exact a4
    · exact .inr u2
  have hinj : ∀ y ∈ E, ∀ z ∈ E, ¬ (S y.i ∨ y.i = x.i) → ¬ (S z.i ∨ z.i = x.i) → y.al ≠ none → z.al ≠ none → lab y.i = lab z.i → y.i = z.i := fun y hy z hz hyS hzS => G.inj y hy z hz (fun h => hyS (.inl h)) fun h => hzS (.inl h)
  have fin : ∀ (a' : Act) (F1 : NT), a'.defers = a.defers → GB P ρ N n0 g' F1 h1 w' (fun j => S j ∨ j = x.i) E lab a'.tmps → firstsK x.fs ch h1 (fun F h => agK x.ag ch h F (drK l ch h k F)) F1 = true → K a' w' := fun a' F1 hda G1 e1 => by
    obtain ⟨F2, h2, lab2, G2, n2, n3, e2⟩ := firsts_ok (ops := ops) x.fs E F1 h1 lab G1 (Nat.le_trans hn0 s.nx) e1 hE hfS hfs
    obtain ⟨e3, e4⟩ := agK_true e2
    exact hn a' g' F2 h2 h1 w' lab2 hda s n2 n3 G2 (fun y hy hyS hya => e3 y (hlive y hy hyS hya)) e4
  by_cases hany : ∃ y ∈ E, y.i = x.i
  · -- not so: a light of that number writes the same place; it is told apart by the plan
    obtain ⟨y, hy, hyi⟩ := hany
    have hdx : x.dst = some y.t := by
      have h1 := (hE y hy).at_
      rw [hyi, hx.at_] at h1
      rw [← hx.dst, Option.some.inj h1]
      exact (hE y hy).dst
    rw [hx.dst, hdx]
    rw [hdx] at hc
    obtain ⟨F1, e1, g1, g2⟩ := tset_true hc
    have hty := hx.lt _ hdx
    have hsz : y.t < a.tmps.size := Nat.lt_of_lt_of_le hty.1 G.sz
    refine fin _ F1 rfl ⟨s.hr, by show N ≤ (a.tmps.setIfInBounds _ _).size; rw [Array.size_setIfInBounds]; exact G.sz, fun p q hpq => ?_, fun z hz hzS => hstay z hz hzS F1 ((G.pa z hz fun h => hzS (.inl h)).set (hE z hz) hty.2 (hd _ hdx z hz) g2), hinj⟩ e1
    show VR ρ g' _ ((a.tmps.setIfInBounds y.t v).getD _ undef)
    by_cases he : y.t = 16 * p.num + q.num
    · have hpl := plOf_num hty.2
      have k1 := D.num_lt p; have k2 := D.num_lt q; have k3 := D.num_lt (plOf y.t).p; have k4 := D.num_lt (plOf y.t).q
      have e1 : (plOf y.t).p = p := D.num_inj (by omega)
      have e2 : (plOf y.t).q = q := D.num_inj (by omega)
      rw [← he, getD_set_same hsz, ← e1, ← e2, g1]
      exact hv
    · rw [getD_set_other he, g2 p q (by
        by_cases h1 : p = (plOf y.t).p
        · refine .inr fun h2 => he ?_
          rw [h1, h2, plOf_num hty.2]
        · exact .inl h1)]
      refine (G.vr p q fun z hz hzS hzt => ?_).mono s.le
      by_cases hzx : z.i = x.i
      · have := fit_same (hE y hy) (hE z hz) (by rw [hzx, hyi])
        exact he (by rw [← this]; exact hzt)
      · exact hpq z hz (fun h => h.elim hzS hzx) hzt
  · have hne : ∀ y ∈ E, y.i ≠ x.i := fun y hy h => hany ⟨y, hy, h⟩
    rw [hx.dst]
    cases hdd : x.dst with
    | none =>
      rw [hdd] at hc
      exact fin _ F rfl ⟨s.hr, G.sz, fun p q hpq => (G.vr p q fun y hy hyS => hpq y hy fun h => h.elim hyS (hne y hy)).mono s.le, fun z hz hzS => hstay z hz hzS F (G.pa z hz fun h => hzS (.inl h)), hinj⟩ hc
    | some t =>
      rw [hdd] at hc
      obtain ⟨F1, e1, g1, g2⟩ := tset_true hc
      have hty := hx.lt _ hdd
      have hsz : t < a.tmps.size := Nat.lt_of_lt_of_le hty.1 G.sz
      refine fin _ F1 rfl ⟨s.hr, by show N ≤ (a.tmps.setIfInBounds _ _).size; rw [Array.size_setIfInBounds]; exact G.sz, fun p q hpq => ?_, fun z hz hzS => hstay z hz hzS F1 ((G.pa z hz fun h => hzS (.inl h)).set (hE z hz) hty.2 (hd _ hdd z hz) g2), hinj⟩ e1
      show VR ρ g' _ ((a.tmps.setIfInBounds t v).getD _ undef)
      by_cases he : t = 16 * p.num + q.num
      · have hpl := plOf_num hty.2
        have k1 := D.num_lt p; have k2 := D.num_lt q; have k3 := D.num_lt (plOf t).p; have k4 := D.num_lt (plOf t).q
        have e1 : (plOf t).p = p := D.num_inj (by omega)
        have e2 : (plOf t).q = q := D.num_inj (by omega)
        rw [← he, getD_set_same hsz, ← e1, ← e2, g1]
        exact hv
      · rw [getD_set_other he, g2 p q (by
          by_cases h1 : p = (plOf t).p
          · refine .inr fun h2 => he ?_
            rw [h1, h2, plOf_num hty.2]
          · exact .inl h1)]
        exact (G.vr p q fun z hz hzS => hpq z hz fun h => h.elim hzS (hne z hz)).mono s.le
end
end Ev
end Go.Proofs.YticoibkgeejkoaaGreatDoor
namespace Go.Proofs.YticoibkgeejkoaaGreatDoor
namespace Ev
set_option linter.unusedVariables false
noncomputable section
variable {ρ : Nat → Value} {P : Program} {N : Nat}
def Lis (listed : Array Bool) (j : Nat) : Prop := listed.getD j false = true
theorem Lis.set {listed : Array Bool} {i : Nat} (hi : i < listed.size) : Lis (listed.setIfInBounds i true) = fun j => Lis listed j ∨ j = i := by
  funext j
  unfold Lis
  apply propext
  simp only [Array.getD_eq_getD_getElem?, Array.getElem?_setIfInBounds]
  by_cases h : i = j
  · subst h; simp [hi]
  · simp [h, Ne.symm h]
theorem Anc.lt {ops : Array Oper} (hd : ∀ i j, Edg ops i j → i < j) {i j : Nat} (h : Anc ops i j) : i < j := by
  induction h with
  | one h => exact hd _ _ h
  | step h _ ih => exact Nat.lt_trans (hd _ _ h) ih
def numsH : List Hv → List Nat
  | [] => []
  | x :: l => x.i :: (x.fs.map (·.i) ++ numsH l)
def itsH : List Hv → List It
  | [] => []
  | x :: l => x.fs ++ itsH l
def PlanOk (P : Program) (ρ : Nat → Value) (N : Nat) (ops : Array Oper) : List It → List Hv → Prop
  | _, [] => True
  | E, x :: l => x.Fit P ρ N ops ∧ (∀ y ∈ E, y.i ≠ x.i) ∧ (∀ t, x.dst = some t → Ok ops E t) ∧ (∀ y ∈ E ++ x.fs, y.al = none → y ∈ x.ag ∨ Anc ops y.i x.i) ∧ (∀ y ∈ x.fs, Anc ops x.i y.i) ∧ FsOk P ρ N ops E x.fs ∧ (∀ z ∈ l, Anc ops x.i z.i) ∧ PlanOk P ρ N ops (E ++ x.fs) l
theorem PlanOk.anc {ops : Array Oper} : ∀ {l : List Hv} {E : List It}, PlanOk P ρ N ops E l → ∀ (x : Nat), (∀ z ∈ l, Anc ops x z.i) → ∀ i ∈ numsH l, Anc ops x i
  | [], E, _, x, _, i, hi => absurd hi List.not_mem_nil
  | z :: l, E, hp, x, hx, i, hi => by
    obtain ⟨_, _, _, _, h6, _, h8, h9⟩ := hp
    have h0 := hx z List.mem_cons_self
    rcases List.mem_cons.1 hi with rfl | hi
    · exact h0
    · rcases List.mem_append.1 hi with hi | hi
      · obtain ⟨y, hy, rfl⟩ := List.mem_map.1 hi
        exact h0.trans (h6 y hy)
      · exact PlanOk.anc h9 x (fun u hu => hx u (List.mem_cons_of_mem _ hu)) i hi
theorem FsOk.fit {ops : Array Oper} : ∀ {l E : List It}, FsOk P ρ N ops E l → ∀ y ∈ l, y.Fit P ρ N ops
  | [], _, _, y, hy => absurd hy List.not_mem_nil
  | x :: l, E, h, y, hy => by
    rcases List.mem_cons.1 hy with rfl | hy
    · exact h.1
    · exact FsOk.fit h.2.2.2.2 y hy
def Use (ops : Array Oper) (y : It) : Prop := ∀ (i : Nat) (o : Oper), ops[i]? = some o → Operand.tmp y.t ∈ looks ops o → Anc ops y.i i
theorem count_set {listed : Array Bool} {i n : Nat} (hi : i < listed.size) (h : listed.getD i true = false) (hn : listed.toList.count false = n + 1) : (listed.setIfInBounds i true).toList.count false = n := by
  have h1 : listed[i] = false := by simpa [hi] using h
  rw [Array.toList_setIfInBounds, List.count_set]
  · rw [hn, Array.getElem_toList, h1]; simp
  · simpa using hi
theorem dr_any {ro : Option Nat} {ops : Array Oper} (hd : ∀ i j, Edg ops i j → i < j) {ch : CH} (hch : CHok P ρ ch) {k : NT → Hp → Bool} {Q : Exit → Act → World → Prop} {g0 : G} {h0 : Hp} {w0 : World} {ds : List Deferred} (hk : ∀ F' g' h' a' w', Step ρ g0 h0 w0 g' h' w' → FR ρ g' N F' a'.tmps → a'.defers = ds → k F' h' = true → Q .normal a' w') :
    ∀ (n : Nat) (l : List Hv) (E : List It) (listed : Array Bool) (a : Act) (w : World) (g : G) (F : NT) (h : Hp) (lab : Nat → L), listed.toList.count false = n → listed.size = ops.size → GB P ρ N h0.nx.num g F h w (Lis listed) E lab a.tmps → LF ch F h (Lis listed) E → Step ρ g0 h0 w0 g h w → a.defers = ds → Clo ops (Lis listed) →
      drK l ch h k F = true → PlanOk P ρ N ops E l → (∀ i, i < ops.size → ¬ Lis listed i → (∃ y ∈ E, y.i = i) ∨ i ∈ numsH l) → (∀ x ∈ l, ¬ Lis listed x.i) → (∀ y ∈ E, y.Fit P ρ N ops) → (∀ y ∈ E ++ itsH l, Use ops y) → wpAnyIn (FK ro) 0 P .any ops Q n listed a w := by
  intro n
  induction n with
  | zero =>
    intro l E listed a w g F h lab hn hs G LL s hda hc e hp hcov hl hE huse
    have hall : ∀ i, i < ops.size → Lis listed i := fun i hi => by
      have h1 := List.count_eq_zero.1 hn
      have h2 : i < listed.size := by omega
      unfold Lis
      cases hb : listed[i] with
      | true => simp [h2, hb]
      | false => exact absurd (by rw [← hb]; exact Array.getElem_mem_toList h2) h1
    refine ⟨?_, ?_⟩
    · apply List.eq_nil_iff_forall_not_mem.2
      intro i hi
      obtain ⟨h1, o, ho, _⟩ := mem_ready.1 hi
      have hlt := (Array.getElem?_eq_some_iff.1 ho).1
      have := hall i hlt
      unfold Lis at this
      have h2 : i < listed.size := by omega
      simp [h2] at h1 this
      rw [h1] at this; cases this
    · cases l with
      | cons x l => exact absurd (hall x.i (Array.getElem?_eq_some_iff.1 hp.1.at_).1) (hl x List.mem_cons_self)
      | nil => exact hk F g h a w s ⟨G.sz, fun p q => G.vr p q fun y hy hyS => absurd (hall y.i (Array.getElem?_eq_some_iff.1 (hE y hy).at_).1) hyS⟩ hda e
  | succ n ih =>
    intro l E listed a w g F h lab hn hs G LL s hda hc e hp hcov hl hE huse
    refine ⟨fun hnil => ?_, fun i hi => ?_⟩
    · -- there is a smallest one that is not listed
      exfalso
      have hex : ∃ i, i < ops.size ∧ ¬ Lis listed i := by
        have h1 : false ∈ listed.toList := List.count_pos_iff.1 (by omega)
        obtain ⟨i, hi, hb⟩ := List.mem_iff_getElem.1 h1
        refine ⟨i, by simpa [hs] using hi, ?_⟩
        have h2 : i < listed.size := by simpa using hi
        unfold Lis
        rw [Array.getElem_toList] at hb
        simp [h2, hb]
      have hmin : ∀ m, (∃ i, i < ops.size ∧ ¬ Lis listed i ∧ i ≤ m) → ∃ i, i < ops.size ∧ ¬ Lis listed i ∧ ∀ j, j < i → Lis listed j := by
        intro m
        induction m with
        | zero => exact fun ⟨i, h1, h2, h3⟩ => ⟨i, h1, h2, fun j hj => by omega⟩
        | succ m ihm =>
          intro ⟨i, h1, h2, h3⟩
          by_cases hb : ∃ j, j < i ∧ ¬ Lis listed j
          · obtain ⟨j, j1, j2⟩ := hb
            exact ihm ⟨j, by omega, j2, by omega⟩
          · exact ⟨i, h1, h2, fun j hj => Classical.not_not.1 fun hn => hb ⟨j, hj, hn⟩⟩
      obtain ⟨i0, h1, h2⟩ := hex
      obtain ⟨i, h1, h2, h3⟩ := hmin i0 ⟨i0, h1, h2, Nat.le_refl _⟩
      have hmem : i ∈ Region.ready .any ops listed := by
        rw [mem_ready]
        have hlt : i < listed.size := by omega
        refine ⟨?_, ops[i], Array.getElem?_eq_getElem h1, fun e' he hb => ?_⟩
        · unfold Lis at h2
          simp [hlt] at h2 ⊢
          exact h2
        · exact h3 _ (hd _ _ ⟨ops[i], Array.getElem?_eq_getElem h1, e', he, hb, rfl⟩)
      rw [hnil] at hmem
      cases hmem
    · obtain ⟨hun, o, ho, hall⟩ := mem_ready.1 hi
      have hlt := (Array.getElem?_eq_some_iff.1 ho).1
      have hlt' : i < listed.size := by omega
      have hnot : ¬ Lis listed i := by
        unfold Lis
        simp [hlt'] at hun ⊢
        exact hun
      have hedge : ∀ i', Edg ops i' i → Lis listed i' := fun i' ⟨o', ho', e', he, hb, heq⟩ => by
        rw [ho] at ho'; cases ho'
        rw [← heq]
        exact hall e' he hb
      have hset := Lis.set (listed := listed) hlt'
      have hcount := count_set hlt' hun hn
      have hclo' : Clo ops (Lis (listed.setIfInBounds i true)) := by rw [hset]; exact hc.put hedge
      have hnouse : ∀ y ∈ E, ¬ Lis listed y.i → Operand.tmp y.t ∉ looks ops o := fun y hy hyS hm => hyS (hc.ready hedge (huse y (List.mem_append_left _ hy) i o ho hm))
      have hheads : ∀ y ∈ E, i = y.i → ∀ x ∈ l, ¬ Lis (listed.setIfInBounds i true) x.i := fun y hy hyi x hx hS => by
        rw [hset] at hS
        rcases hS with hS | hS
        · exact hl x hx hS
        · cases l with
          | nil => exact absurd hx List.not_mem_nil
          | cons z l =>
            rcases List.mem_cons.1 hx with rfl | hx
            · exact hp.2.1 y hy (by rw [← hyi, hS])
            · exact hl z List.mem_cons_self (hc.ready hedge (by rw [← hS]; exact hp.2.2.2.2.2.2.1 x hx))
      rcases hcov i hlt hnot with ⟨y, hy, hyi⟩ | hi'
      · have hat := (hE y hy).at_
        rw [hyi, ho] at hat
        have hyo : o = y.o := Option.some.inj hat
        subst hyo
        subst hyi
        have hcov' : ∀ j, j < ops.size → ¬ Lis (listed.setIfInBounds y.i true) j → (∃ z ∈ E, z.i = j) ∨ j ∈ numsH l := fun j hj hjS => hcov j hj fun h => hjS (by rw [hset]; exact .inl h)
        cases hal : y.al with
        | none =>
          refine light_step G hE LL hy hnot hal hnouse fun a' hda' G' LL' => ?_
          exact ih l E _ a' w g F h lab hcount (by rw [Array.size_setIfInBounds]; exact hs) (by rw [hset]; exact G') (by rw [hset]; exact LL') s (by rw [hda', hda]) hclo' e hp hcov' (hheads y hy rfl) hE huse
        | some al =>
          refine al_step G hE LL hy hnot hal hnouse fun a' g' w' hda' st hn0 G' LL' => ?_
          exact ih l E _ a' w' g' F h lab hcount (by rw [Array.size_setIfInBounds]; exact hs) (by rw [hset]; exact G') (by rw [hset]; exact LL') (s.late hn0 st) (by rw [hda', hda]) hclo' e hp hcov' (hheads y hy rfl) hE huse
      · cases l with
        | nil => exact absurd hi' List.not_mem_nil
        | cons x l =>
          obtain ⟨p1, p2, p3, p4, p5, p6, p7, p8⟩ := hp
          rcases List.mem_cons.1 hi' with hxi | hi'
          · subst hxi
            have hat := p1.at_
            rw [ho] at hat
            have hxo : o = x.o := Option.some.inj hat
            subst hxo
            have hxl : ∀ y ∈ x.fs, ¬ (Lis listed y.i ∨ y.i = x.i) := fun y hy h => by
              have ha := p5 y hy
              rcases h with h | h
              · exact hnot (hc.anc ha h)
              · have := ha.lt hd; omega
            refine phase_step G s.nx p1 hch e hE hnouse p3 (fun y hy hyS hya => (p4 y hy hya).elim id fun h => absurd (hc.ready hedge h) fun h2 => hyS (.inl h2)) hxl p6 fun a' g' F' h' h1 w' lab' hda' st n2 n3 G' LL' e' => ?_
            have hst : Step ρ g0 h0 w0 g' h' w' := by
              rcases n3 with n3 | n3
              · exact (s.trans st).nm n3 n2
              · rw [n3]; exact s.trans st
            refine ih l (E ++ x.fs) _ a' w' g' F' h' lab' hcount (by rw [Array.size_setIfInBounds]; exact hs) (by rw [hset]; exact G') (by rw [hset]; exact LL') hst (by rw [hda', hda]) hclo' e' p8 (fun j hj hjS => ?_) (fun z hz hS => ?_) (fun y hy => ?_) (fun y hy => huse y ?_)
            · have h1 : ¬ Lis listed j := fun h => hjS (by rw [hset]; exact .inl h)
              have h2 : j ≠ x.i := fun h => hjS (by rw [hset]; exact .inr h)
              rcases hcov j hj h1 with ⟨y, hy, hyj⟩ | hm
              · exact .inl ⟨y, List.mem_append_left _ hy, hyj⟩
              · rcases List.mem_cons.1 hm with hm | hm
                · exact absurd hm h2
                · rcases List.mem_append.1 hm with hm | hm
                  · obtain ⟨y, hy, hyj⟩ := List.mem_map.1 hm
                    exact .inl ⟨y, List.mem_append_right _ hy, hyj⟩
                  · exact .inr hm
            · rw [hset] at hS
              rcases hS with hS | hS
              · exact hl z (List.mem_cons_of_mem _ hz) hS
              · have := (p7 z hz).lt hd; omega
            · rcases List.mem_append.1 hy with hy | hy
              · exact hE y hy
              · exact p6.fit y hy
            · rw [List.append_assoc] at hy; exact hy
          · -- one behind it: not ready
            exfalso
            have ha : Anc ops x.i i := by
              rcases List.mem_append.1 hi' with hm | hm
              · obtain ⟨y, hy, rfl⟩ := List.mem_map.1 hm
                exact p5 y hy
              · exact p8.anc x.i p7 i hm
            exact hl x List.mem_cons_self (hc.ready hedge ha)
end
end Ev
end Go.Proofs.YticoibkgeejkoaaGreatDoor
namespace Go.Proofs.YticoibkgeejkoaaGreatDoor
namespace Ev
set_option linter.unusedVariables false
noncomputable section
variable {ρ : Nat → Value} {P : Program} {N : Nat}
def useL : List Operand → Nat → Nat
  | [], m => m
  | .tmp t :: l, m => useL l (m ||| 2 ^ t)
  | _ :: l, m => useL l m
theorem testBit_or_pow (m t u : Nat) : (m ||| 2 ^ t).testBit u = (m.testBit u || decide (t = u)) := by
  rw [Nat.testBit_or, Nat.testBit_two_pow]
theorem useL_mono : ∀ (l : List Operand) (m t : Nat), m.testBit t = true → (useL l m).testBit t = true
  | [], _, _, h => h
  | .tmp u :: l, m, t, h => useL_mono l _ t (by rw [testBit_or_pow, h]; rfl)
  | .const _ :: l, m, t, h => useL_mono l m t h
  | .global _ :: l, m, t, h => useL_mono l m t h
  | .func _ :: l, m, t, h => useL_mono l m t h
theorem useL_mem : ∀ (l : List Operand) (m t : Nat), Operand.tmp t ∈ l → (useL l m).testBit t = true
  | .tmp u :: l, m, t, h => by
    rcases List.mem_cons.1 h with h | h
    · have h : t = u := Operand.tmp.inj h
      exact useL_mono l _ t (by rw [testBit_or_pow, h]; simp)
    · exact useL_mem l _ t h
  | .const _ :: l, m, t, h => useL_mem l m t (by simpa using h)
  | .global _ :: l, m, t, h => useL_mem l m t (by simpa using h)
  | .func _ :: l, m, t, h => useL_mem l m t (by simpa using h)
def lk (ops : List Oper) (o : Oper) : List Operand := match o.guard with
  | none => o.op.operands.toList
  | some (j, _) => match (ops[j]?).bind (·.dst) with
    | some d => .tmp d :: o.op.operands.toList
    | none => o.op.operands.toList
theorem lk_eq (ops : Array Oper) (o : Oper) : lk ops.toList o = looks ops o := by
  unfold lk looks
  simp only [Array.getElem?_toList]
  cases hg : o.guard with
  | none => rfl
  | some jw =>
    obtain ⟨j, w⟩ := jw
    show (match (ops[j]?).bind (·.dst) with | some d => _ | none => _) = (match (ops[j]?).bind (·.dst) with | some d => _ | none => _)
    cases (ops[j]?).bind (·.dst) <;> rfl
def useM (ops : List Oper) (o : Oper) : Nat := useL (lk ops o) 0
theorem useM_mem {ops : Array Oper} {o : Oper} {t : Nat} (h : Operand.tmp t ∈ looks ops o) : (useM ops.toList o).testBit t = true := useL_mem _ _ _ (by rw [lk_eq]; exact h)
def edgeM (ms : List Nat) (i : Nat) : List Edge → Nat → Option Nat
  | [], m => some m
  | e :: l, m => match Region.binds .any e with
    | false => edgeM ms i l m
    | true => match Nat.ble (e.on + 1) i with
      | true => edgeM ms i l (m ||| 2 ^ e.on ||| ms.getD e.on 0)
      | false => none
theorem edgeM_ok {ops : Array Oper} {ms : List Nat} {i : Nat} {o : Oper} (ho : ops[i]? = some o) (hms : ∀ (q m : Nat), ms[q]? = some m → ∀ j, m.testBit j = true → Anc ops j q) :
    ∀ (l : List Edge) (m r : Nat), (∀ e ∈ l, e ∈ o.after) → (∀ j, m.testBit j = true → Anc ops j i) → edgeM ms i l m = some r → (∀ j, r.testBit j = true → Anc ops j i) ∧ ∀ e ∈ l, Region.binds .any e = true → e.on < i
  | [], m, r, _, hm, h => by cases h; exact ⟨hm, fun e he => absurd he List.not_mem_nil⟩
  | e :: l, m, r, hl, hm, h => by
    unfold edgeM at h
    split at h
    · rename_i hb
      obtain ⟨h1, h2⟩ := edgeM_ok ho hms l m r (fun e he => hl e (List.mem_cons_of_mem _ he)) hm h
      refine ⟨h1, fun e' he hb' => ?_⟩
      rcases List.mem_cons.1 he with rfl | he
      · rw [hb] at hb'; cases hb'
      · exact h2 e' he hb'
    · rename_i hb
      split at h
      · rename_i hlt
        have hlt : e.on < i := Nat.le_of_ble_eq_true hlt
        have hedge : Edg ops e.on i := ⟨o, ho, e, hl e List.mem_cons_self, hb, rfl⟩
        obtain ⟨h1, h2⟩ := edgeM_ok ho hms l _ r (fun e he => hl e (List.mem_cons_of_mem _ he)) (fun j hj => by
          rw [Nat.testBit_or, testBit_or_pow, Bool.or_eq_true, Bool.or_eq_true, decide_eq_true_eq] at hj
          rcases hj with (hj | rfl) | hj
          · exact hm j hj
          · exact .one hedge
          · cases hq : ms[e.on]? with
            | none => rw [List.getD_eq_getElem?_getD, hq] at hj; simp at hj
            | some q =>
              rw [List.getD_eq_getElem?_getD, hq] at hj
              exact (hms _ _ hq j hj).trans (.one hedge)) h
        refine ⟨h1, fun e' he hb' => ?_⟩
        rcases List.mem_cons.1 he with rfl | he
        · exact hlt
        · exact h2 e' he hb'
      · cases h
def ancOf : List Oper → Nat → List Nat → Option (List Nat)
  | [], _, ms => some ms
  | o :: l, i, ms => match edgeM ms i o.after.toList 0 with
    | none => none
    | some m => ancOf l (i + 1) (ms ++ [m])
theorem ancOf_ok {ops : Array Oper} : ∀ (l : List Oper) (i : Nat) (ms r : List Nat), (∀ j : Nat, l[j]? = ops[i + j]?) → ms.length = i → (∀ (q m : Nat), ms[q]? = some m → ∀ j, m.testBit j = true → Anc ops j q) → (∀ (j q : Nat), q < i → Edg ops j q → j < q) → ancOf l i ms = some r →
    (∀ (q m : Nat), r[q]? = some m → ∀ j, m.testBit j = true → Anc ops j q) ∧ ∀ j q, Edg ops j q → j < q
  | [], i, ms, r, hl, hn, hms, hd, h => by
    cases h
    refine ⟨hms, fun j q he => ?_⟩
    obtain ⟨o, ho, e⟩ := he
    by_cases hq : q < i
    · exact hd j q hq ⟨o, ho, e⟩
    · have := hl (q - i)
      rw [show i + (q - i) = q from by omega, ho] at this
      simp at this
  | o :: l, i, ms, r, hl, hn, hms, hd, h => by
    unfold ancOf at h
    have ho : ops[i]? = some o := by have := hl 0; rw [Nat.add_zero] at this; rw [← this]; rfl
    split at h
    · cases h
    · rename_i m hm
      obtain ⟨h1, h2⟩ := edgeM_ok ho hms o.after.toList 0 m (fun e he => by simpa using he) (fun j hj => by simp at hj) hm
      refine ancOf_ok l (i + 1) (ms ++ [m]) r (fun j => by have := hl (j + 1); rw [show i + (j + 1) = i + 1 + j from by omega] at this; exact this) (by simp [hn]) (fun q m' hq j hj => ?_) (fun j q hq he => ?_) h
      · by_cases hqi : q < ms.length
        · rw [List.getElem?_append_left hqi] at hq
          exact hms q m' hq j hj
        · rw [List.getElem?_append_right (by omega)] at hq
          have hq0 : q - ms.length = 0 := by
            have := (List.getElem?_eq_some_iff.1 hq).1
            simp at this; omega
          rw [hq0] at hq
          cases hq
          rw [show q = i from by omega]
          exact h1 j hj
      · by_cases hqi : q < i
        · exact hd j q hqi he
        · have : q = i := by omega
          subst this
          obtain ⟨o', ho', e, he, hb, rfl⟩ := he
          rw [ho] at ho'; cases ho'
          exact h2 e (by simpa using he) hb
def bit (ms : List Nat) (i j : Nat) : Bool := (ms.getD i 0).testBit j
theorem bit_anc {ops : Array Oper} {ms : List Nat} (hms : ∀ (q m : Nat), ms[q]? = some m → ∀ j, m.testBit j = true → Anc ops j q) {i j : Nat} (h : bit ms i j = true) : Anc ops j i := by
  unfold bit at h
  cases hq : ms[i]? with
  | none => rw [List.getD_eq_getElem?_getD, hq] at h; simp at h
  | some m => rw [List.getD_eq_getElem?_getD, hq] at h; exact hms i m hq j h
def spO (ops : List Oper) (o : Oper) : Option Nat := match o.guard with
  | none => none
  | some (j, _) => match ops[j]? with
    | none => none
    | some oj => match oj.guard with
      | none => oj.dst
      | some _ => none
def itOf (T : Nat → Option Ty) (Fs : FsT) (N : Nat) (ops : List Oper) (i : Nat) (o : Oper) : Option It := match o.dst with
  | none => none
  | some t => match Nat.ble (t + 1) N && Nat.ble (t + 1) 256 with
    | false => none
    | true => match isLight o with
      | true => some ⟨i, o, t, gOf T Fs ops o, none, spO ops o⟩
      | false => match isAl o, o.guard with
        | true, none => some ⟨i, o, t, clNo, some (alOf T o), none⟩
        | _, _ => none
theorem itOf_ok (hρ : ∀ i, (ρ i).oneCell = true) {T : Nat → Option Ty} {Fs : FsT} (hT : TTok P T) {ops : Array Oper} {i : Nat} {o : Oper} {y : It} (ho : ops[i]? = some o) (h : itOf T Fs N ops.toList i o = some y) : y.Fit P ρ N ops ∧ y.i = i := by
  unfold itOf at h
  split at h
  · cases h
  · rename_i t hd
    split at h
    · cases h
    · rename_i hb
      rw [Bool.and_eq_true] at hb
      have hb1 := Nat.le_of_ble_eq_true hb.1
      have hb2 := Nat.le_of_ble_eq_true hb.2
      split at h
      · rename_i hl
        cases h
        exact ⟨⟨ho, hd, hb1, hb2, fun _ ch F h c g a w e hk hr => gOf_okL hρ hT hl e hk hr, fun al hal => (by cases hal)⟩, rfl⟩
      · split at h
        · rename_i ha hg
          cases h
          exact ⟨⟨ho, hd, hb1, hb2, fun hal => (by cases hal), fun al hal => (by cases hal; exact ⟨hg, alOf_ok hρ hT o, alOf_dep T o⟩)⟩, rfl⟩
        · cases h
def itsOf (T : Nat → Option Ty) (Fs : FsT) (N : Nat) (ops : List Oper) : List Oper → Nat → List It
  | [], _ => []
  | o :: l, i => match itOf T Fs N ops i o with
    | some y => y :: itsOf T Fs N ops l (i + 1)
    | none => itsOf T Fs N ops l (i + 1)
def heavOf (T : Nat → Option Ty) (Fs : FsT) (N : Nat) (ops : List Oper) : List Oper → Nat → List (Nat × Oper)
  | [], _ => []
  | o :: l, i => match itOf T Fs N ops i o with
    | some _ => heavOf T Fs N ops l (i + 1)
    | none => (i, o) :: heavOf T Fs N ops l (i + 1)
section
variable {T : Nat → Option Ty} {Fs : FsT} {ops : Array Oper} {ops' : List Oper}
theorem itsOf_mem : ∀ (l : List Oper) (i : Nat), (∀ j : Nat, l[j]? = ops[i + j]?) → ∀ y ∈ itsOf T Fs N ops' l i, ∃ q o, ops[q]? = some o ∧ itOf T Fs N ops' q o = some y
  | [], i, hl, y, hy => absurd hy List.not_mem_nil
  | o :: l, i, hl, y, hy => by
    have ho : ops[i]? = some o := by have := hl 0; rw [Nat.add_zero] at this; rw [← this]; rfl
    have hl' : ∀ j : Nat, l[j]? = ops[i + 1 + j]? := fun j => by have := hl (j + 1); rw [show i + (j + 1) = i + 1 + j from by omega] at this; exact this
    unfold itsOf at hy
    split at hy
    · rename_i y' hy'
      rcases List.mem_cons.1 hy with rfl | hy
      · exact ⟨i, o, ho, hy'⟩
      · exact itsOf_mem l (i + 1) hl' y hy
    · exact itsOf_mem l (i + 1) hl' y hy
theorem heavOf_mem : ∀ (l : List Oper) (i : Nat), (∀ j : Nat, l[j]? = ops[i + j]?) → ∀ x ∈ heavOf T Fs N ops' l i, ops[x.1]? = some x.2 ∧ itOf T Fs N ops' x.1 x.2 = none
  | [], i, hl, x, hx => absurd hx List.not_mem_nil
  | o :: l, i, hl, x, hx => by
    have ho : ops[i]? = some o := by have := hl 0; rw [Nat.add_zero] at this; rw [← this]; rfl
    have hl' : ∀ j : Nat, l[j]? = ops[i + 1 + j]? := fun j => by have := hl (j + 1); rw [show i + (j + 1) = i + 1 + j from by omega] at this; exact this
    unfold heavOf at hx
    split at hx
    · exact heavOf_mem l (i + 1) hl' x hx
    · rename_i hn
      rcases List.mem_cons.1 hx with rfl | hx
      · exact ⟨ho, hn⟩
      · exact heavOf_mem l (i + 1) hl' x hx
theorem all_of : ∀ (l : List Oper) (i : Nat), (∀ j : Nat, l[j]? = ops[i + j]?) → ∀ q, i ≤ q → q < ops.size → (∃ o y, ops[q]? = some o ∧ itOf T Fs N ops' q o = some y ∧ y ∈ itsOf T Fs N ops' l i) ∨ ∃ x ∈ heavOf T Fs N ops' l i, x.1 = q
  | [], i, hl, q, h1, h2 => by
    have := hl (q - i)
    rw [show i + (q - i) = q from by omega, Array.getElem?_eq_getElem h2] at this
    simp at this
  | o :: l, i, hl, q, h1, h2 => by
    have ho : ops[i]? = some o := by have := hl 0; rw [Nat.add_zero] at this; rw [← this]; rfl
    have hl' : ∀ j : Nat, l[j]? = ops[i + 1 + j]? := fun j => by have := hl (j + 1); rw [show i + (j + 1) = i + 1 + j from by omega] at this; exact this
    unfold itsOf heavOf
    by_cases hq : q = i
    · subst hq
      cases hy : itOf T Fs N ops' q o with
      | some y => exact .inl ⟨o, y, ho, hy, List.mem_cons_self⟩
      | none => exact .inr ⟨(q, o), List.mem_cons_self, rfl⟩
    · rcases all_of l (i + 1) hl' q (by omega) h2 with ⟨o', y, a, b, c⟩ | ⟨x, a, b⟩
      · left
        refine ⟨o', y, a, b, ?_⟩
        cases itOf T Fs N ops' i o with
        | some y' => exact List.mem_cons_of_mem _ c
        | none => exact c
      · right
        refine ⟨x, ?_, b⟩
        cases itOf T Fs N ops' i o with
        | some y' => exact a
        | none => exact List.mem_cons_of_mem _ a
end
def ahead (ms : List Nat) (hs : List (Nat × Oper)) (y : It) : Bool := match hs with
  | [] => true
  | (j, _) :: _ => !bit ms y.i j
def live (ms : List Nat) (j : Nat) (y : It) : Bool := (match y.al with | none => true | some _ => false) && !bit ms j y.i
def planOf (T : Nat → Option Ty) (Fs : FsT) (ops : List Oper) (ms : List Nat) : List (Nat × Oper) → List It → List It → List Hv
  | [], _, _ => []
  | (j, o) :: hs, E, rest => ⟨j, o, gOf T Fs ops o, o.dst, rest.filter (ahead ms hs), (E ++ rest.filter (ahead ms hs)).filter (live ms j), spO ops o⟩ :: planOf T Fs ops ms hs (E ++ rest.filter (ahead ms hs)) (rest.filter (fun y => !ahead ms hs y))
def fsB (ops : List Oper) : List It → Nat → Nat → (Nat → Nat → Bool) → Bool
  | [], u, s, k => k u s
  | x :: l, u, s, k => !u.testBit x.t && !s.testBit x.i && (match x.al with | none => fsB ops l u (s ||| 2 ^ x.i) k | some _ => !(useM ops x.o).testBit x.t && fsB ops l (u ||| useM ops x.o ||| 2 ^ x.t) (s ||| 2 ^ x.i) k)
def planB (ops : List Oper) (ms : List Nat) (N : Nat) : List Hv → Nat → Nat → Bool
  | [], _, _ => true
  | x :: l, u, s => (match x.dst with | none => true | some t => Nat.ble (t + 1) N && Nat.ble (t + 1) 256 && !u.testBit t) && x.fs.all (fun y => bit ms y.i x.i) && l.all (fun z => bit ms z.i x.i) && fsB ops x.fs u s fun u s => planB ops ms N l u s
def Lck (ops : Array Oper) (E : List It) (u s : Nat) : Prop := ∀ y ∈ E, s.testBit y.i = true ∧ (y.al ≠ none → u.testBit y.t = true ∧ ∀ t, Operand.tmp t ∈ looks ops y.o → u.testBit t = true)
theorem Lck.ok {ops : Array Oper} {E : List It} {u s d : Nat} (h : Lck ops E u s) (hd : u.testBit d = false) : Ok ops E d := fun y hy hya => by
  obtain ⟨_, h2⟩ := h y hy
  obtain ⟨h3, h4⟩ := h2 hya
  exact ⟨fun e => (by rw [e, h3] at hd; cases hd), fun hm => (by rw [h4 d hm] at hd; cases hd)⟩
theorem fsB_ok {ops : Array Oper} {k : Nat → Nat → Bool} : ∀ (l E : List It) (u s : Nat), Lck ops E u s → (∀ x ∈ l, x.Fit P ρ N ops) → fsB ops.toList l u s k = true → FsOk P ρ N ops E l ∧ ∃ u' s', Lck ops (E ++ l) u' s' ∧ k u' s' = true
  | [], E, u, s, hL, _, h => ⟨trivial, u, s, by rw [List.append_nil]; exact hL, h⟩
  | x :: l, E, u, s, hL, hf, h => by
    unfold fsB at h
    rw [Bool.and_eq_true, Bool.and_eq_true, Bool.not_eq_true', Bool.not_eq_true'] at h
    obtain ⟨⟨h1, h2⟩, h3⟩ := h
    have hE : ∀ y ∈ E, y.i ≠ x.i := fun y hy e => by have := (hL y hy).1; rw [e, h2] at this; cases this
    have hf' : ∀ y ∈ l, y.Fit P ρ N ops := fun y hy => hf y (List.mem_cons_of_mem _ hy)
    cases hal : x.al with
    | none =>
      simp only [hal] at h3
      have hL' : Lck ops (E ++ [x]) u (s ||| 2 ^ x.i) := fun y hy => by
        rcases List.mem_append.1 hy with hy | hy
        · exact ⟨by rw [testBit_or_pow, (hL y hy).1]; rfl, (hL y hy).2⟩
        · rw [List.mem_singleton.1 hy]
          exact ⟨by rw [testBit_or_pow]; simp, fun h => absurd hal h⟩
      obtain ⟨a1, u', s', a2, a3⟩ := fsB_ok l (E ++ [x]) _ _ hL' hf' h3
      refine ⟨⟨hf x List.mem_cons_self, hL.ok h1, fun h => absurd hal h, hE, a1⟩, u', s', ?_, a3⟩
      rw [List.append_assoc] at a2
      exact a2
    | some al =>
      simp only [hal, Bool.and_eq_true, Bool.not_eq_true'] at h3
      obtain ⟨h4, h5⟩ := h3
      have hL' : Lck ops (E ++ [x]) (u ||| useM ops.toList x.o ||| 2 ^ x.t) (s ||| 2 ^ x.i) := fun y hy => by
        rcases List.mem_append.1 hy with hy | hy
        · refine ⟨by rw [testBit_or_pow, (hL y hy).1]; rfl, fun hya => ?_⟩
          obtain ⟨b1, b2⟩ := (hL y hy).2 hya
          exact ⟨by rw [testBit_or_pow, Nat.testBit_or, b1]; rfl, fun t ht => by rw [testBit_or_pow, Nat.testBit_or, b2 t ht]; rfl⟩
        · rw [List.mem_singleton.1 hy]
          exact ⟨by rw [testBit_or_pow]; simp, fun _ => ⟨by rw [testBit_or_pow]; simp, fun t ht => by rw [testBit_or_pow, Nat.testBit_or, useM_mem ht]; simp⟩⟩
      obtain ⟨a1, u', s', a2, a3⟩ := fsB_ok l (E ++ [x]) _ _ hL' hf' h5
      refine ⟨⟨hf x List.mem_cons_self, hL.ok h1, fun _ hm => (by rw [useM_mem hm] at h4; cases h4), hE, a1⟩, u', s', ?_, a3⟩
      rw [List.append_assoc] at a2
      exact a2
section
variable {T : Nat → Option Ty} {Fs : FsT} {ms : List Nat}
theorem planOf_ok (hρ : ∀ i, (ρ i).oneCell = true) (hT : TTok P T) (hFs : FTok P ρ Fs) {ops : Array Oper} (hms : ∀ (q m : Nat), ms[q]? = some m → ∀ j, m.testBit j = true → Anc ops j q) :
    ∀ (hs : List (Nat × Oper)) (E rest : List It) (u s : Nat), (∀ x ∈ hs, ops[x.1]? = some x.2 ∧ itOf T Fs N ops.toList x.1 x.2 = none) → (∀ y ∈ E ++ rest, y.Fit P ρ N ops ∧ ∃ o, ops[y.i]? = some o ∧ itOf T Fs N ops.toList y.i o = some y) → Lck ops E u s → planB ops.toList ms N (planOf T Fs ops.toList ms hs E rest) u s = true →
      PlanOk P ρ N ops E (planOf T Fs ops.toList ms hs E rest)
  | [], _, _, _, _, _, _, _, _ => trivial
  | (j, o) :: hs, E, rest, u, s, hh, hE, hL, hb => by
    unfold planOf at hb ⊢
    unfold planB at hb
    rw [Bool.and_eq_true, Bool.and_eq_true, Bool.and_eq_true, List.all_eq_true, List.all_eq_true] at hb
    obtain ⟨⟨⟨b1, b3⟩, b4⟩, b5⟩ := hb
    have hj := hh _ List.mem_cons_self
    have hE' : ∀ y ∈ E ++ rest.filter (ahead ms hs), y.Fit P ρ N ops ∧ ∃ o, ops[y.i]? = some o ∧ itOf T Fs N ops.toList y.i o = some y := fun y hy => by
      rcases List.mem_append.1 hy with hy | hy
      · exact hE y (List.mem_append_left _ hy)
      · exact hE y (List.mem_append_right _ (List.mem_filter.1 hy).1)
    obtain ⟨f1, u', s', f2, f3⟩ := fsB_ok (P := P) (ρ := ρ) (N := N) _ E u s hL (fun y hy => (hE' y (List.mem_append_right _ hy)).1) b5
    have hdst : ∀ t, o.dst = some t → (t < N ∧ t < 256) ∧ u.testBit t = false := fun t ht => by
      simp only [ht, Bool.and_eq_true, Bool.not_eq_true'] at b1
      exact ⟨⟨Nat.le_of_ble_eq_true b1.1.1, Nat.le_of_ble_eq_true b1.1.2⟩, b1.2⟩
    refine ⟨⟨hj.1, rfl, fun t ht => (hdst t ht).1, fun ch F h c g a w hch e hk hr => gOf_ok hρ hT hFs hch e hk hr⟩, fun y hy he => ?_, fun t ht => hL.ok (hdst t ht).2, fun y hy hya => ?_, fun y hy => bit_anc hms (b3 y hy), f1, fun z hz => bit_anc hms (b4 z hz), ?_⟩
    · obtain ⟨_, o', ho', hl'⟩ := hE y (List.mem_append_left _ hy)
      have he : y.i = j := he
      rw [he, hj.1] at ho'
      cases ho'
      rw [he, hj.2] at hl'
      cases hl'
    · cases hbit : bit ms j y.i with
      | true => exact .inr (bit_anc hms hbit)
      | false => exact .inl (List.mem_filter.2 ⟨hy, by unfold live; rw [hbit, hya]; rfl⟩)
    · refine planOf_ok hρ hT hFs hms hs _ _ u' s' (fun x hx => hh x (List.mem_cons_of_mem _ hx)) (fun y hy => ?_) f2 f3
      rcases List.mem_append.1 hy with hy | hy
      · exact hE' y hy
      · exact hE y (List.mem_append_right _ (List.mem_filter.1 hy).1)
theorem planOf_cover {ops : List Oper} : ∀ (hs : List (Nat × Oper)) (E rest : List It), (hs = [] → rest = []) → (∀ x ∈ hs, x.1 ∈ numsH (planOf T Fs ops ms hs E rest)) ∧ ∀ y ∈ rest, y.i ∈ numsH (planOf T Fs ops ms hs E rest)
  | [], E, rest, h => ⟨fun x hx => absurd hx List.not_mem_nil, fun y hy => by rw [h rfl] at hy; exact absurd hy List.not_mem_nil⟩
  | (j, o) :: hs, E, rest, h => by
    obtain ⟨h1, h2⟩ := planOf_cover (ops := ops) hs (E ++ rest.filter (ahead ms hs)) (rest.filter (fun y => !ahead ms hs y)) (fun hn => by
      subst hn
      apply List.eq_nil_iff_forall_not_mem.2
      intro y hy
      have := (List.mem_filter.1 hy).2
      simp [ahead] at this)
    unfold planOf numsH
    refine ⟨fun x hx => ?_, fun y hy => ?_⟩
    · rcases List.mem_cons.1 hx with rfl | hx
      · exact List.mem_cons_self
      · exact List.mem_cons_of_mem _ (List.mem_append_right _ (h1 x hx))
    · cases ha : ahead ms hs y with
      | true => exact List.mem_cons_of_mem _ (List.mem_append_left _ (List.mem_map.2 ⟨y, List.mem_filter.2 ⟨hy, ha⟩, rfl⟩))
      | false => exact List.mem_cons_of_mem _ (List.mem_append_right _ (h2 y (List.mem_filter.2 ⟨hy, by rw [ha]; rfl⟩)))
theorem planOf_its {ops : List Oper} : ∀ (hs : List (Nat × Oper)) (E rest : List It), ∀ y ∈ itsH (planOf T Fs ops ms hs E rest), y ∈ rest
  | [], E, rest, y, hy => absurd hy List.not_mem_nil
  | (j, o) :: hs, E, rest, y, hy => by
    unfold planOf itsH at hy
    rcases List.mem_append.1 hy with hy | hy
    · exact (List.mem_filter.1 hy).1
    · exact (List.mem_filter.1 (planOf_its hs _ _ y hy)).1
end
def useB (ops : List Oper) (ms : List Nat) (ys : List It) : List Oper → Nat → Bool
  | [], _ => true
  | o :: l, i => (match useM ops o with
    | 0 => true
    | u => ys.all fun y => !u.testBit y.t || bit ms i y.i) && useB ops ms ys l (i + 1)
theorem useB_ok {ms : List Nat} {ys : List It} {ops : Array Oper} : ∀ (l : List Oper) (i : Nat), (∀ j : Nat, l[j]? = ops[i + j]?) → useB ops.toList ms ys l i = true → ∀ (q : Nat) (o : Oper), i ≤ q → ops[q]? = some o → ∀ y ∈ ys, Operand.tmp y.t ∈ looks ops o → bit ms q y.i = true
  | [], i, hl, _, q, o, h1, ho, y, hy, hm => by
    have := hl (q - i)
    rw [show i + (q - i) = q from by omega, ho] at this
    simp at this
  | o' :: l, i, hl, h, q, o, h1, ho, y, hy, hm => by
    have ho' : ops[i]? = some o' := by have := hl 0; rw [Nat.add_zero] at this; rw [← this]; rfl
    have hl' : ∀ j : Nat, l[j]? = ops[i + 1 + j]? := fun j => by have := hl (j + 1); rw [show i + (j + 1) = i + 1 + j from by omega] at this; exact this
    unfold useB at h
    rw [Bool.and_eq_true] at h
    by_cases hq : q = i
    · subst hq
      rw [ho'] at ho; cases ho
      have hu := useM_mem hm
      have h := h.1
      split at h
      · rename_i h0; rw [h0] at hu; simp at hu
      · rw [List.all_eq_true] at h
        have := h y hy
        rw [hu] at this
        simpa using this
    · exact useB_ok l (i + 1) hl' h.2 q o (by omega) ho y hy hm
structure Dr where
  f0 : List It
  ag : List It
  hv : List Hv
def isLt (y : It) : Bool := match y.al with | none => true | some _ => false
def drOf1 (T : Nat → Option Ty) (Fs : FsT) (N : Nat) (l : List Oper) (ms : List Nat) (hs : List (Nat × Oper)) (ys : List It) : Option Dr :=
  let f0 := ys.filter (ahead ms hs)
  let pl := planOf T Fs l ms hs f0 (ys.filter (fun y => !ahead ms hs y))
  match fsB l f0 0 0 (fun u s => planB l ms N pl u s) && useB l ms ys l 0 with
  | true => some ⟨f0, f0.filter isLt, pl⟩
  | false => none
def drOf (T : Nat → Option Ty) (Fs : FsT) (N : Nat) (l : List Oper) : Option Dr := match ancOf l 0 [] with
  | none => none
  | some ms => drOf1 T Fs N l ms (heavOf T Fs N l l 0) (itsOf T Fs N l l 0)
def fr1 (t : Nat) (k : NT → Hp → Bool) (ih : CH → Hp → (NT → Hp → Bool) → NT → Bool) (ch : CH) (h : Hp) (F : NT) (v : AV) (_ : Hp) : Bool := tall ((plOf t).set (ih ch h k) F v)
def aLate1 (h : Hp) (c : AV → Hp → Bool) (r : AO × Kd) : Bool := h.new r.1 (c (r.2.av h.nx))
def aLate (r : Option (AO × Kd)) (h : Hp) (c : AV → Hp → Bool) : Bool := Option.rec (motive := fun _ => Bool) false (aLate1 h c) r
def frA1 (x : It) (ih : CH → Hp → (NT → Hp → Bool) → NT → Bool) (ch : CH) (k : NT → Hp → Bool) (F : NT) (v : AV) (h' : Hp) : Bool := tall ((plOf x.t).set (ih ch h' k) F v)
def frA (x : It) (ih : CH → Hp → (NT → Hp → Bool) → NT → Bool) (ch : CH) (h : Hp) (k : NT → Hp → Bool) (F : NT) (al : Al) : Bool := tall (aLate (al.run F) h (frA1 x ih ch k F))
def noC (_ : AV) (_ : Hp) : Bool := false
def frL (x : It) (ih : CH → Hp → (NT → Hp → Bool) → NT → Bool) (ch : CH) (h : Hp) (k : NT → Hp → Bool) (F : NT) : Bool := tall (bothT (!(x.cl.run ch F h noC)) (x.cl.run ch F h (fr1 x.t k ih ch h F)))
def fr0 (x : It) (_ : List It) (ih : CH → Hp → (NT → Hp → Bool) → NT → Bool) (ch : CH) (h : Hp) (k : NT → Hp → Bool) (F : NT) : Bool := spl x.sp (fun F => Option.rec (motive := fun _ => Bool) (frL x ih ch h k F) (frA x ih ch h k F) x.al) F
def frN (_ : CH) (h : Hp) (k : NT → Hp → Bool) (F : NT) : Bool := tall (k F h)
def firstsR (l : List It) (ch : CH) (h : Hp) (k : NT → Hp → Bool) (F : NT) : Bool := tall (List.rec (motive := fun _ => CH → Hp → (NT → Hp → Bool) → NT → Bool) frN fr0 l ch h k F)
theorem firstsR_eq : ∀ (l : List It) (ch : CH) (h : Hp) (k : NT → Hp → Bool) (F : NT), firstsR l ch h k F = firstsK l ch h k F
  | [], _, _, _, _ => rfl
  | x :: l, ch, h, k, F => by
    have ih : ∀ h, firstsR l ch h k = firstsK l ch h k := fun h => funext fun F => firstsR_eq l ch h k F
    show fr0 x l (fun ch h k F => firstsR l ch h k F) ch h k F = firstsK (x :: l) ch h k F
    unfold fr0 firstsK
    congr 1
    funext F
    cases hal : x.al with
    | none =>
      show both _ (x.cl.run ch F h fun v _ => (plOf x.t).set (firstsR l ch h k) F v) = _
      rw [ih h]
      rfl
    | some al =>
      show frA x _ ch h k F al = (match al.run F with | none => false | some (obj, kd) => h.new obj fun h' => (plOf x.t).set (firstsK l ch h' k) F (kd.av h.nx))
      unfold frA
      cases hr : al.run F with
      | none => rfl
      | some r =>
        obtain ⟨obj, kd⟩ := r
        show h.new obj (fun h' => (plOf x.t).set (firstsR l ch h' k) F (kd.av h.nx)) = h.new obj fun h' => (plOf x.t).set (firstsK l ch h' k) F (kd.av h.nx)
        simp only [ih]
def ar0 (x : It) (_ : List It) (ih : CH → Hp → NT → Bool → Bool) (ch : CH) (h : Hp) (F : NT) (k : Bool) : Bool := tall (bothT (x.cl.run ch F h (chk ((plOf x.t).get F))) (ih ch h F k))
def arN (_ : CH) (_ : Hp) (_ : NT) (k : Bool) : Bool := tall (k)
def agR (l : List It) (ch : CH) (h : Hp) (F : NT) (k : Bool) : Bool := tall (List.rec (motive := fun _ => CH → Hp → NT → Bool → Bool) arN ar0 l ch h F k)
theorem agR_eq : ∀ (l : List It) (ch : CH) (h : Hp) (F : NT) (k : Bool), agR l ch h F k = agK l ch h F k
  | [], _, _, _, _ => rfl
  | x :: l, ch, h, F, k => by
    show both _ (agR l ch h F k) = both _ (agK l ch h F k)
    rw [agR_eq l]
def dr2 (x : Hv) (ih : CH → Hp → (NT → Hp → Bool) → NT → Bool) (ch : CH) (k : NT → Hp → Bool) (F : NT) (h : Hp) : Bool := tall (agR x.ag ch h F (ih ch h k F))
def dr1 (x : Hv) (ih : CH → Hp → (NT → Hp → Bool) → NT → Bool) (ch : CH) (k : NT → Hp → Bool) (F : NT) (v : AV) (h : Hp) : Bool := tall (hvSet x.dst (firstsR x.fs ch h (dr2 x ih ch k)) F v)
def dr0 (x : Hv) (_ : List Hv) (ih : CH → Hp → (NT → Hp → Bool) → NT → Bool) (ch : CH) (h : Hp) (k : NT → Hp → Bool) (F : NT) : Bool := spl x.sp (fun F => x.cl.run ch F h (dr1 x ih ch k F)) F
def drN (_ : CH) (h : Hp) (k : NT → Hp → Bool) (F : NT) : Bool := tall (k F h)
def drR (l : List Hv) (ch : CH) (h : Hp) (k : NT → Hp → Bool) (F : NT) : Bool := tall (List.rec (motive := fun _ => CH → Hp → (NT → Hp → Bool) → NT → Bool) drN dr0 l ch h k F)
theorem drR_eq : ∀ (l : List Hv) (ch : CH) (h : Hp) (k : NT → Hp → Bool) (F : NT), drR l ch h k F = drK l ch h k F
  | [], _, _, _, _ => rfl
  | x :: l, ch, h, k, F => by
    show spl x.sp (fun F => x.cl.run ch F h (fun v h => hvSet x.dst (firstsR x.fs ch h fun F h => agR x.ag ch h F (drR l ch h k F)) F v)) F = spl x.sp (fun F => x.cl.run ch F h fun v h => hvSet x.dst (firstsK x.fs ch h fun F h => agK x.ag ch h F (drK l ch h k F)) F v) F
    congr 1
    funext F
    congr 1
    funext v h'
    congr 1
    funext F'
    rw [firstsR_eq]
    congr 1
    funext F2 h2
    rw [agR_eq, drR_eq l]
def drS1 (d : Dr) (ch : CH) (k : Ex → NT → Hp → Bool) (F : NT) (h : Hp) : Bool := tall (agR d.ag ch h F (drR d.hv ch h (k .normal) F))
def drS (d : Dr) (ch : CH) (F : NT) (h : Hp) (k : Ex → NT → Hp → Bool) : Bool := tall (firstsR d.f0 ch h (drS1 d ch k) F)
def drO (d : Option Dr) (ch : CH) (F : NT) (h : Hp) (k : Ex → NT → Hp → Bool) : Bool := tall (Option.rec (motive := fun _ => CH → NT → Hp → (Ex → NT → Hp → Bool) → Bool) (fun _ _ _ _ => false) drS d ch F h k)
def ccDr (T : Nat → Option Ty) (Fs : FsT) (N : Nat) (l : List Oper) : Cc := ⟨drO (drOf T Fs N l)⟩
theorem count_replicate_false (n : Nat) : (Array.replicate n false).toList.count false = n := by simp
theorem ccDr_ok (hm : P.follows .mixedOrders = true) (hρ : ∀ i, (ρ i).oneCell = true) {T : Nat → Option Ty} {Fs : FsT} (hT : TTok P T) (hFs : FTok P ρ Fs) {R : Option Nat → Prop} {id : Nat} {ops : Array Oper} : Cc.ok R P ρ N (.region id ops true) (ccDr T Fs N ops.toList) := fun ch F h k g a w r n0 _ hch hn0 e hF hd hr => by
  have e : drO (drOf T Fs N ops.toList) ch F h k = true := e
  have hl : ∀ j : Nat, ops.toList[j]? = ops[0 + j]? := fun j => by rw [Nat.zero_add, Array.getElem?_toList]
  unfold drOf at e
  split at e
  · exact Bool.noConfusion (show false = true from e)
  rename_i ms hms
  obtain ⟨a1, a2⟩ := ancOf_ok (ops := ops) ops.toList 0 [] ms hl rfl (fun q m hq => by simp at hq) (fun j q hq => absurd hq (Nat.not_lt_zero _)) hms
  unfold drOf1 at e
  simp only at e
  split at e
  case h_2 => exact Bool.noConfusion (show false = true from e)
  rename_i hb
  rw [Bool.and_eq_true] at hb
  obtain ⟨b1, b4⟩ := hb
  have hlit : ∀ y ∈ itsOf T Fs N ops.toList ops.toList 0, y.Fit P ρ N ops ∧ ∃ o, ops[y.i]? = some o ∧ itOf T Fs N ops.toList y.i o = some y := fun y hy => by
    obtain ⟨q, o, h1, h2⟩ := itsOf_mem (T := T) (Fs := Fs) (N := N) (ops := ops) _ 0 hl y hy
    obtain ⟨h3, rfl⟩ := itOf_ok hρ hT h1 h2
    exact ⟨h3, o, h1, h2⟩
  have hheav := heavOf_mem (T := T) (Fs := Fs) (N := N) (ops := ops) (ops' := ops.toList) _ 0 hl
  have hcov := planOf_cover (T := T) (Fs := Fs) (ms := ms) (ops := ops.toList) (heavOf T Fs N ops.toList ops.toList 0) ((itsOf T Fs N ops.toList ops.toList 0).filter (ahead ms (heavOf T Fs N ops.toList ops.toList 0))) ((itsOf T Fs N ops.toList ops.toList 0).filter (fun y => !ahead ms (heavOf T Fs N ops.toList ops.toList 0) y)) (fun hn => by
    rw [hn]
    apply List.eq_nil_iff_forall_not_mem.2
    intro y hy
    have := (List.mem_filter.1 hy).2
    simp [ahead] at this)
  obtain ⟨f1, u, s, f2, f3⟩ := fsB_ok (P := P) (ρ := ρ) (N := N) (ops := ops) ((itsOf T Fs N ops.toList ops.toList 0).filter (ahead ms (heavOf T Fs N ops.toList ops.toList 0))) [] 0 0 (fun y hy => absurd hy List.not_mem_nil) (fun y hy => (hlit y (List.mem_filter.1 hy).1).1) b1
  rw [List.nil_append] at f2
  have hpl := planOf_ok (P := P) (ρ := ρ) (N := N) (ops := ops) hρ hT hFs a1 (heavOf T Fs N ops.toList ops.toList 0) ((itsOf T Fs N ops.toList ops.toList 0).filter (ahead ms (heavOf T Fs N ops.toList ops.toList 0))) ((itsOf T Fs N ops.toList ops.toList 0).filter (fun y => !ahead ms (heavOf T Fs N ops.toList ops.toList 0) y)) u s hheav (fun y hy => by
    rcases List.mem_append.1 hy with hy | hy
    · exact hlit y (List.mem_filter.1 hy).1
    · exact hlit y (List.mem_filter.1 hy).1) f2 f3
  generalize hf0 : (itsOf T Fs N ops.toList ops.toList 0).filter (ahead ms (heavOf T Fs N ops.toList ops.toList 0)) = f0 at *
  generalize hplv : planOf T Fs ops.toList ms (heavOf T Fs N ops.toList ops.toList 0) f0 ((itsOf T Fs N ops.toList ops.toList 0).filter (fun y => !ahead ms (heavOf T Fs N ops.toList ops.toList 0) y)) = pl at *
  have e : firstsR f0 ch h (fun F h => agR (f0.filter isLt) ch h F (drR pl ch h (k .normal) F)) F = true := e
  rw [firstsR_eq] at e
  have hf0m : ∀ y ∈ f0, y ∈ itsOf T Fs N ops.toList ops.toList 0 := fun y hy => by rw [← hf0] at hy; exact (List.mem_filter.1 hy).1
  have hlis : ∀ j, ¬ Lis (Array.replicate ops.size false) j := fun j h => by
    unfold Lis at h
    rw [Array.getD_eq_getD_getElem?, Array.getElem?_replicate] at h
    split at h <;> simp at h
  have hr1 : HR ρ g h { w with drawn := w.drawn + 1 } := hr.of_heap rfl
  have G0 : GB P ρ N h.nx.num g F h { w with drawn := w.drawn + 1 } (Lis (Array.replicate ops.size false)) [] (fun _ => h.nx) a.tmps := ⟨hr1, hF.1, fun p q _ => hF.2 p q, fun x hx => absurd hx List.not_mem_nil, fun x hx => absurd hx List.not_mem_nil⟩
  obtain ⟨F', h', lab, G1, n1, n2, e⟩ := firsts_ok (ops := ops) f0 [] F h _ G0 (Nat.le_refl _) e (fun x hx => absurd hx List.not_mem_nil) (fun y hy => hlis _) f1
  rw [List.nil_append] at G1
  rw [agR_eq] at e
  obtain ⟨e1, e2⟩ := agK_true e
  rw [drR_eq] at e2
  have hs1 : Step ρ g h w g h { w with drawn := w.drawn + 1 } := Step.drew hr _
  have hs2 : Step ρ g h w g h' { w with drawn := w.drawn + 1 } := by
    rcases n2 with n2 | n2
    · exact hs1.nm n2 n1
    · rw [n2]; exact hs1
  refine wpIn_region_any hm (dr_any a2 hch (g0 := g) (h0 := h) (w0 := w) (ds := a.defers) (fun F2 g2 h2 a2 w2 s2 f2 d2 k2 => ⟨.normal, F2, g2, h2, rfl, s2, f2, by rw [d2]; exact ⟨Mks.step s2 hd.1, hd.2⟩, k2⟩) ops.size pl f0 _ a _ g F' h' lab (count_replicate_false _) (by simp) G1 (fun y hy _ hya => e1 y (List.mem_filter.2 ⟨hy, by unfold isLt; rw [hya]⟩)) hs2 rfl (fun i j _ hj => absurd hj (hlis _)) e2 hpl (fun i hi _ => ?_) (fun x _ => hlis _) (fun y hy => (hlit y (hf0m y hy)).1) (fun y hy i o ho hmem => ?_))
  · rcases all_of (T := T) (Fs := Fs) (N := N) (ops := ops) (ops' := ops.toList) ops.toList 0 hl i (Nat.zero_le _) hi with ⟨o, y, h1, h2, h3⟩ | ⟨x, h1, rfl⟩
    · have hyi : y.i = i := (itOf_ok (P := P) (ρ := ρ) hρ hT h1 h2).2
      cases ha : ahead ms (heavOf T Fs N ops.toList ops.toList 0) y with
      | true => exact .inl ⟨y, by rw [← hf0]; exact List.mem_filter.2 ⟨h3, ha⟩, hyi⟩
      | false => exact .inr (by rw [← hyi]; exact hcov.2 y (List.mem_filter.2 ⟨h3, by rw [ha]; rfl⟩))
    · exact .inr (hcov.1 x h1)
  · have hy' : y ∈ itsOf T Fs N ops.toList ops.toList 0 := by
      rcases List.mem_append.1 hy with hy | hy
      · exact hf0m y hy
      · rw [← hplv] at hy
        exact (List.mem_filter.1 (planOf_its _ _ _ y hy)).1
    exact bit_anc a1 (useB_ok (ops := ops) ops.toList 0 hl b4 i o (Nat.zero_le _) ho y hy' hmem)
end
end Ev
end Go.Proofs.YticoibkgeejkoaaGreatDoor
namespace Go.Proofs.YticoibkgeejkoaaGreatDoor
namespace Ev
set_option linter.unusedVariables false
noncomputable section
variable {ρ : Nat → Value} {P : Program} {N : Nat} {g g' : G} {w w' : World} {h : Hp}
mutual
theorem VR.back (hle : g.lv g') : ∀ {a : AV} {v v' : Value}, VR ρ g a v → VR ρ g' a v' → VR ρ g a v'
  | _, _, _, .undef _, _ => .undef _
  | _, _, _, .i64 u hu, e => by cases e; exact .i64 u hu
  | _, _, _, .int k n, e => by cases e; exact .int k n
  | _, _, _, .bool b, e => by cases e; exact .bool b
  | _, _, _, .str n x s hx hs, e => by
    cases e with
    | str _ _ s' hx' hs' => exact .str n x s' hx' hs'
  | _, _, _, .nilp, e => by cases e; exact .nilp
  | _, _, _, .ptr l o b c hb, e => by
    cases e with
    | ptr _ _ b2 c2 hb' =>
      have := (hle _ _ hb).1
      rw [hb'] at this
      cases this
      exact .ptr l o _ _ hb
  | _, _, _, .nils, e => by cases e; exact .nils
  | _, _, _, .slice l o n k b c hb, e => by
    cases e with
    | slice _ _ _ _ b' c' hb' =>
      have := (hle _ _ hb).1
      rw [hb'] at this
      cases this
      exact .slice l o n k _ _ hb
    | slicez _ _ a => exact .slicez l o a
  | _, _, _, .slicu l o n k b c hb hz hk, e => by
    cases e with
    | slicu _ _ _ k' b' c' hb' hz' hk' =>
      obtain ⟨h1, h2, h3⟩ := hle _ _ hb
      rw [hb'] at h1
      cases h1
      exact .slicu l o n k' _ _ hb (by rw [← h2, ← h3]; exact hz') hk'
    | slice0 _ _ a _ _ => exact .slice0 l o a _ hb
  | _, _, _, .slice0 l o a p hp, e => by
    cases e with
    | slicu _ _ _ k' b' c' hb' hz' hk' =>
      obtain ⟨h1, h2, h3⟩ := hle _ _ hp
      rw [hb'] at h1
      cases h1
      exact .slicu l o 0 k' _ _ hp (by rw [← h2, ← h3]; exact hz') hk'
    | slice0 _ _ a' _ _ => exact .slice0 l o a' p hp
  | _, _, _, .slicez l o a, e => by
    cases e with
    | slice _ _ _ k b' c' hb' => exact .slicez l o _
    | slicez _ _ a' => exact .slicez l o a'
  | _, _, _, .nilm, e => by cases e; exact .nilm
  | _, _, _, .map l b c hb, e => by
    cases e with
    | map _ b' c' hb' =>
      have := (hle _ _ hb).1
      rw [hb'] at this
      cases this
      exact .map l _ _ hb
  | _, _, _, .nilf, e => by cases e; exact .nilf
  | _, _, _, .fn f a b a' b' ha hb, e => by
    cases e with
    | fn _ _ _ a2 b2 ha2 hb2 => exact .fn f a b a2 b2 (VRs.back hle ha ha2) (VRs.back hle hb hb2)
  | _, _, _, .nili, e => by cases e; exact .nili
  | _, _, _, .iface t v v' h, e => by
    cases e with
    | iface _ _ v2 h2 => exact .iface t v v2 (VR.back hle h h2)
  | _, _, _, .agg n l cs h hl h1, e => by
    cases e with
    | agg _ _ cs2 h2 hl2 h12 => exact .agg n l cs2 (VRs.back hle h h2) hl2 h12
  | _, _, _, .tup l cs h, e => by
    cases e with
    | tup _ cs2 h2 => exact .tup l cs2 (VRs.back hle h h2)
  | _, _, _, .sym i, e => by cases e; exact .sym i
  | _, _, _, .yl l b hb, e => by
    cases e with
    | yl _ b' hb' =>
      have := (hle _ _ hb).1
      rw [hb'] at this
      cases this
      exact .yl l _ hb
theorem VRs.back (hle : g.lv g') : ∀ {l : List AV} {vs vs' : List Value}, VRs ρ g l vs → VRs ρ g' l vs' → VRs ρ g l vs'
  | _, _, _, .nil, e => by cases e; exact .nil
  | _, _, _, .cons a v l vs h hs, e => by
    cases e with
    | cons _ v' _ vs' h' hs' => exact .cons a v' l vs' (VR.back hle h h') (VRs.back hle hs hs')
end
theorem FR.back (hle : g.lv g') {F : NT} {tm tm' : Array Value} (e : FR ρ g N F tm) (e' : FR ρ g' N F tm') : FR ρ g N F tm' := ⟨e'.1, fun p q => VR.back hle (e.2 p q) (e'.2 p q)⟩
theorem OR.back (hle : g.le g') {l : L} {p : Nat × Nat} (hp : g.blk l = some p) {b c f s : Nat} {x : AO} (e : OR ρ g w l b c f s x) (e' : OR ρ g' w' l b c f s x) : OR ρ g w' l b c f s x := by
  cases x with
  | none => trivial
  | cells z u n t =>
    obtain ⟨cs, el, fz, h1, h2, h3, h4, h5, h6, hq, h7, h8⟩ := e
    obtain ⟨cs', el', fz', k1, k2, k3, k4, k5, k6, kq, k7, k8⟩ := e'
    refine ⟨cs', el', fz', k1, k2, k3, k4, k5, k6, kq, k7, fun o a ho => ?_⟩
    obtain ⟨v, v1, v2⟩ := h8 o a ho
    obtain ⟨v', w1, w2⟩ := k8 o a ho
    exact ⟨v', w1, VR.back hle.1 v2 w2⟩
  | map k bs es =>
    obtain ⟨ms, h1, h2, h3, h4⟩ := e
    obtain ⟨ms', k1, k2, k3, k4⟩ := e'
    exact ⟨ms', k1, VRs.back hle.1 h2 k2, VRs.back hle.1 h3 k3, k4⟩
  | strIt n x q => exact e'
  | mapIt m since k a =>
    obtain ⟨hc, bm, cm, h1, h2, h3, h4⟩ := e
    obtain ⟨_, bm', cm', k1, k2, k3, k4⟩ := e'
    have hit := hle.2 l p hp
    rw [(hle.1 _ _ h1).1] at k1
    cases k1
    rw [hit] at k2
    exact ⟨hc, bm, cm, h1, k2, h3, h4⟩
  | loop F N ps asg body st jp =>
    obtain ⟨hc, fn, tm, df, h1, h2⟩ := e
    obtain ⟨_, fn', tm', df', k1, k2⟩ := e'
    exact ⟨hc, fn', tm', df', k1, FR.back hle.1 h2 k2⟩
theorem run_next_at (w : World) (ty : TypeId) (b bm since : Nat) (seen : Array Nat) (ms : Array MapEntry) (hb : w.heap[b]? = some (.mapIter (some bm) since seen since)) (hm : w.heap[bm]? = some (.map ms since)) (hold : ∀ x ∈ ms.toList, x.born < since) :
    ((Instr.next (.pointer (some ⟨b, 0, none⟩)) false ty).run P w = .ok (.tuple #[.bool false]) w) ∨
    ∃ e ∈ ms.toList, seen.contains e.born = false ∧ ∃ dr : Nat, (Instr.next (.pointer (some ⟨b, 0, none⟩)) false ty).run P w = .ok (.tuple #[.bool true, e.key, e.val]) { w with drawn := dr, heap := w.heap.setIfInBounds b (.mapIter (some bm) since (seen.push e.born) since) } := by
  simp only [Instr.next, getObj, Sem.run_bind, Sem.run, hb, hm, Result.andThen, next_test_false seen ms since since hold (Nat.le_refl _), Bool.false_eq_true, if_false]
  have hmem : ∀ x ∈ (Array.filter (fun e => !seen.contains e.born) ms).toList, x.born < since := fun x hx => hold x (by simp at hx ⊢; exact hx.1)
  have hsee : ∀ x ∈ (Array.filter (fun e => !seen.contains e.born) ms).toList, x ∈ ms.toList ∧ seen.contains x.born = false := fun x hx => by
    have h := Array.mem_filter.1 (Array.mem_toList_iff.1 hx)
    refine ⟨Array.mem_toList_iff.2 h.1, ?_⟩
    cases hc : seen.contains x.born with
    | false => rfl
    | true => rw [hc] at h; exact absurd h.2 (by decide)
  generalize Array.filter (fun e => !seen.contains e.born) ms = L at hmem hsee ⊢
  have e1 : L.filter (fun x => decide (x.born < since)) = L := Array.filter_eq_self.2 (fun x hx => by simpa using hmem x (by simpa using hx))
  have e2 : L.filter (fun x => decide (x.born ≥ since)) = #[] := by
    rw [Array.filter_eq_empty_iff]
    intro x hx
    have := hmem x (by simpa using hx)
    simp
    omega
  simp only [e1, e2, Array.append_empty]
  by_cases h0 : L.size = 0
  · left
    have : L = #[] := Array.eq_empty_of_size_eq_zero h0
    subst this
    simp [choose, Sem.run, Question.forced]
  · right
    have hne : L.isEmpty = false := by simp [Array.isEmpty, h0]
    simp only [hne, Bool.false_eq_true, if_false, Array.empty_append, Array.size_map]
    have hch : ∃ (j dr : Nat), j < L.size ∧ (choose (Question.mapNext L.size)).run P w = .ok j { w with drawn := dr } := by
      by_cases hf : L.size ≤ 1
      · exact ⟨0, w.drawn, by omega, by simp [choose, Sem.run, Question.forced, hf]⟩
      · exact ⟨_, w.drawn + 1, Nat.mod_lt _ (by omega), by
          simp only [choose, Sem.run, Question.forced, decide_eq_true_eq, hf, if_false, Question.cut]
          rfl⟩
    obtain ⟨j, dr, hj, hrun⟩ := hch
    have hL : L[j] ∈ L.toList := by simp
    refine ⟨L[j], (hsee _ hL).1, (hsee _ hL).2, dr, ?_⟩
    have hset : ∀ o', (setObj b o').run P { w with drawn := dr } = .ok () { w with drawn := dr, heap := w.heap.setIfInBounds b o' } := fun o' => by
      simp only [setObj, Sem.run, hb]
    simp only [hrun, Array.getElem?_map, Array.getElem?_eq_getElem hj, Option.map_some, Sem.run_bind, hset, Result.andThen]
    rfl
def clr0 (t : Nat) (_ : List Nat) (ih : (NT → Bool) → NT → Bool) (k : NT → Bool) (F : NT) : Bool := (plOf t).set (ih k) F .undef
def clearK (wr : List Nat) (k : NT → Bool) (F : NT) : Bool := List.rec (motive := fun _ => (NT → Bool) → NT → Bool) (fun k F => k F) clr0 wr k F
theorem clearK_true : ∀ {wr : List Nat} {k : NT → Bool} {F : NT}, clearK wr k F = true → ∃ F0, k F0 = true ∧ ∀ p q, tget p q F0 = tget p q F ∨ tget p q F0 = .undef
  | [], k, F, e => ⟨F, e, fun _ _ => .inl rfl⟩
  | t :: wr, k, F, e => by
    obtain ⟨F1, e, g1, g2⟩ := tset_true (show (plOf t).set (clearK wr k) F .undef = true from e)
    obtain ⟨F0, e, g3⟩ := clearK_true e
    refine ⟨F0, e, fun p q => ?_⟩
    rcases g3 p q with h | h
    · by_cases hpq : p = (plOf t).p ∧ q = (plOf t).q
      · obtain ⟨rfl, rfl⟩ := hpq
        exact .inr (by rw [h, g1])
      · have hne : p ≠ (plOf t).p ∨ q ≠ (plOf t).q := by
          by_cases hp : p = (plOf t).p
          · exact .inr fun hq => hpq ⟨hp, hq⟩
          · exact .inl hp
        exact .inl (by rw [h, g2 p q hne])
    · exact .inr h
def isU : AV → Bool
  | .undef => true
  | _ => false
theorem isU_true {a : AV} (h : isU a = true) : a = .undef := by cases a <;> first | rfl | cases h
def dAll : List D := [.d0, .d1, .d2, .d3, .d4, .d5, .d6, .d7, .d8, .d9, .d10, .d11, .d12, .d13, .d14, .d15]
theorem dAll_mem (d : D) : d ∈ dAll := by cases d <;> simp [dAll]
def subF (F0 F : NT) : Bool := dAll.all fun p => dAll.all fun q => sel (isU (tget p q F0)) true (avEq (tget p q F) (tget p q F0))
theorem subF_true {F0 F : NT} (h : subF F0 F = true) {tm : Array Value} (hF : FR ρ g N F tm) : FR ρ g N F0 tm := by
  refine ⟨hF.1, fun p q => ?_⟩
  unfold subF at h
  rw [List.all_eq_true] at h
  have h1 := h p (dAll_mem p)
  rw [List.all_eq_true] at h1
  rcases sel_true (h1 q (dAll_mem q)) with ⟨e1, _⟩ | ⟨_, e1⟩
  · rw [isU_true e1]; exact .undef _
  · rw [← avEq_true e1]; exact hF.2 p q
def rndN (_ : List (AV × AV)) (_ : Nat → AV × AV → Bool) : Bool := true
def rnd1 (b : Nat) (ih : List (AV × AV) → (Nat → AV × AV → Bool) → Bool) (f : Nat → AV × AV → Bool) (e : AV × AV) (es : List (AV × AV)) (_ : Bool) : Bool := both (f b e) (ih es f)
def rnd0 (b : Nat) (_ : List Nat) (ih : List (AV × AV) → (Nat → AV × AV → Bool) → Bool) (es : List (AV × AV)) (f : Nat → AV × AV → Bool) : Bool := List.rec (motive := fun _ => Bool) true (rnd1 b ih f) es
def rndsK (f : Nat → AV × AV → Bool) (bs : List Nat) (es : List (AV × AV)) : Bool := List.rec (motive := fun _ => List (AV × AV) → (Nat → AV × AV → Bool) → Bool) rndN rnd0 bs es f
theorem rndsK_true {f : Nat → AV × AV → Bool} : ∀ {bs : List Nat} {es : List (AV × AV)}, rndsK f bs es = true → ∀ (i : Nat) (b : Nat) (e : AV × AV), bs[i]? = some b → es[i]? = some e → f b e = true
  | [], es, _, i, b, e, hb, _ => by simp at hb
  | b0 :: bs, [], _, i, b, e, _, he => by simp at he
  | b0 :: bs, e0 :: es, h, i, b, e, hb, he => by
    obtain ⟨h1, h2⟩ := both_true (show both (f b0 e0) (rndsK f bs es) = true from h)
    cases i with
    | zero => simp at hb he; subst hb; subst he; exact h1
    | succ i => simp at hb he; exact rndsK_true h2 i b e hb he
def ltN0 (b : Nat) (_ : List Nat) (ih : Nat → Bool) (k : Nat) : Bool := both (Nat.ble (Nat.succ b) k) (ih k)
def allLt (bs : List Nat) (k : Nat) : Bool := List.rec (motive := fun _ => Nat → Bool) (fun _ => true) ltN0 bs k
theorem allLt_true : ∀ {bs : List Nat} {k : Nat}, allLt bs k = true → ∀ b ∈ bs, b < k
  | [], _, _, b, hb => absurd hb List.not_mem_nil
  | b0 :: bs, k, h, b, hb => by
    obtain ⟨h1, h2⟩ := both_true (show both (Nat.ble (Nat.succ b0) k) (allLt bs k) = true from h)
    rcases List.mem_cons.1 hb with rfl | hb
    · exact ble_true h1
    · exact allLt_true h2 b hb
end
end Ev
end Go.Proofs.YticoibkgeejkoaaGreatDoor
namespace Go.Proofs.YticoibkgeejkoaaGreatDoor
namespace Ev
set_option linter.unusedVariables false
noncomputable section
variable {ρ : Nat → Value} {P : Program} {N : Nat} {R : Option Nat → Prop}
def mlB1 (cy : Cc) (ch : CH) (k : Ex → NT → Hp → Bool) (F : NT) (h : Hp) : Bool := cy.run ch F h k
def mlBody (rg : Rg) (cy : Cc) (ch : CH) (k : Ex → NT → Hp → Bool) (h : Hp) (F : NT) : Bool := rg.run ch F h (mlB1 cy ch k)
def mlOk (F0 : NT) (x : Ex) (F : NT) (_ : Hp) : Bool := Ex.rec (motive := fun _ => Bool) (subF F0 F) (fun _ => false) false x
def mlR2 (rg : Rg) (cy : Cc) (ch : CH) (d : Nat) (F0 : NT) (e : AV × AV) (h1 : Hp) : Bool := (plOf d).set (mlBody rg cy ch (mlOk F0) ⟨h1.m, h1.nx, h1.nx.num⟩) F0 (.tup [.bool true, e.1, e.2])
def mlRnd (rg : Rg) (cy : Cc) (ch : CH) (d : Nat) (F0 : NT) (l m : L) (since : Nat) (h : Hp) (b : Nat) (e : AV × AV) : Bool := h.set l (.mapIt m since since (Nat.succ b)) (mlR2 rg cy ch d F0 e)
def mlEx (k : Ex → NT → Hp → Bool) (x : Ex) (F : NT) (h : Hp) : Bool := Ex.rec (motive := fun _ => Bool) false (fun i => k (.exit i) F h) (k .ret F h) x
def mlE2 (rg : Rg) (cy : Cc) (ch : CH) (d : Nat) (k : Ex → NT → Hp → Bool) (F0 : NT) (h1 : Hp) : Bool := (plOf d).set (mlBody rg cy ch (mlEx k) h1) F0 (.tup [.bool false])
def mlExit (rg : Rg) (cy : Cc) (ch : CH) (d : Nat) (k : Ex → NT → Hp → Bool) (F0 : NT) (l : L) (h : Hp) : Bool := h.set l .none (mlE2 rg cy ch d k F0)
def mlP (t : Nat) (l : L) (F0 : NT) : Bool := ((rdOf (.tmp t)).get F0).ptrK fun l' o => both (lEq l' l) (Nat.beq o (nat_lit 0))
def ml5 (t d : Nat) (rg : Rg) (cy : Cc) (ch : CH) (k : Ex → NT → Hp → Bool) (l m : L) (since : Nat) (h : Hp) (bs : List Nat) (es : List (AV × AV)) (F0 : NT) : Bool :=
  both (mlP t l F0) (both (rndsK (mlRnd rg cy ch d F0 l m since h) bs es) (mlExit rg cy ch d k F0 l h))
def ml4 (t d : Nat) (wr : List Nat) (rg : Rg) (cy : Cc) (ch : CH) (F : NT) (h : Hp) (k : Ex → NT → Hp → Bool) (l m : L) (since : Nat) (clk : Nat) (bs : List Nat) (es : List (AV × AV)) : Bool :=
  both (Nat.beq clk since) (both (allLt bs since) (clearK wr (ml5 t d rg cy ch k l m since h bs es) F))
def ml3 (t d : Nat) (wr : List Nat) (rg : Rg) (cy : Cc) (ch : CH) (F : NT) (h : Hp) (k : Ex → NT → Hp → Bool) (l m : L) (since st a : Nat) : Bool :=
  both (Nat.beq a (nat_lit 0)) (both (Nat.beq st since) ((h.get m).mapsK (ml4 t d wr rg cy ch F h k l m since)))
def ml2 (t d : Nat) (wr : List Nat) (rg : Rg) (cy : Cc) (ch : CH) (F : NT) (h : Hp) (k : Ex → NT → Hp → Bool) (l : L) (o : Nat) : Bool :=
  both (Nat.beq o (nat_lit 0)) ((h.get l).itK (ml3 t d wr rg cy ch F h k l))
def mlR (t d : Nat) (wr : List Nat) (N : Nat) (rg : Rg) (cy : Cc) (ch : CH) (F : NT) (h : Hp) (k : Ex → NT → Hp → Bool) : Bool :=
  both (Nat.ble (Nat.succ d) N) (both (Nat.ble (Nat.succ d) (nat_lit 256)) (((rdOf (.tmp t)).get F).ptrK (ml2 t d wr rg cy ch F h k)))
theorem range_succ {n : Nat} (h : 0 < n) : List.range n = 0 :: List.range' 1 (n - 1) := by
  obtain ⟨m, rfl⟩ : ∃ m, n = m + 1 := ⟨n - 1, by omega⟩
  rw [List.range_eq_range', List.range'_succ]; simp
theorem filter_len_lt {bs : List Nat} {seen : Array Nat} {b : Nat} (hb : b ∈ bs) (hs : seen.contains b = false) : (bs.filter fun x => !(seen.push b).contains x).length < (bs.filter fun x => !seen.contains x).length := by
  exact filter_lt (fun x : Nat => !seen.contains x) (fun x => !(seen.push b).contains x) (fun x hx => by
    rw [contains_push] at hx
    cases hc : seen.contains x with
    | false => rfl
    | true => rw [hc, Bool.true_or] at hx; exact absurd hx (by decide)) b (by rw [hs]; rfl) (by rw [contains_push, beq_self_eq_true, Bool.or_true]; rfl) bs hb
theorem ccMl_ok {id : Nat} {ops : Array Oper} {y : Code} {t d : Nat} {wr : List Nat} {o0 : Oper} {rg : Rg} {cy : Cc} (h0 : ops[0]? = some o0) (hop : o0.op = .next (.tmp t) false) (hgd : o0.guard = none) (hdst : o0.dst = some d)
    (hrg : Rg.ok P ρ N ops (List.range' 1 (ops.size - 1)) rg) (hy : Cc.ok R P ρ N y cy) : Cc.ok R P ρ N (.loop (.seq (.region id ops false) y)) ⟨mlR t d wr N rg cy⟩ := fun ch F h k g a w r n0 hR hch hn0 e hF hd hr b kk cs hro _ _ => by
  obtain ⟨d1', e1⟩ := both_true e
  obtain ⟨d2', e2⟩ := both_true e1
  have d1 : d + 1 ≤ N := ble_true d1'
  have d2 : d + 1 ≤ 256 := ble_true d2'
  obtain ⟨l', o, ht, e3⟩ := AV.ptrK_true (v := (rdOf (.tmp t)).get F) e2
  obtain ⟨f1, e4⟩ := both_true e3
  have f1' : o = 0 := beq_true f1
  subst f1'
  obtain ⟨m, clk, st, at_, hol, e5⟩ := AO.itK_true e4
  obtain ⟨f2, e6⟩ := both_true e5
  have f2' : at_ = 0 := beq_true f2
  subst f2'
  obtain ⟨f3, e7⟩ := both_true e6
  have f3' : st = clk := beq_true f3
  subst f3'
  obtain ⟨ck, bs, es, hom, e8⟩ := AO.mapsK_true e7
  obtain ⟨f4, e9⟩ := both_true e8
  have f4' : ck = st := beq_true f4
  subst f4'
  obtain ⟨f5, e10⟩ := both_true e9
  have hlt := allLt_true f5
  obtain ⟨F0, e11, hsub⟩ := clearK_true e10
  obtain ⟨f6, e12⟩ := both_true e11
  obtain ⟨f7, e13⟩ := both_true e12
  have hrnd := rndsK_true f7
  obtain ⟨hL, eL, hLn, hLg, hLf, hLl⟩ := Hp.set_true e13
  have ht0 : (rdOf (.tmp t)).get F0 = .ptr l' 0 := by
    obtain ⟨l2, o2, ht0, f8⟩ := AV.ptrK_true (v := (rdOf (.tmp t)).get F0) f6
    obtain ⟨f9, f10⟩ := both_true f8
    rw [ht0, lEq_true f9, beq_true f10]
  clear e e1 e2 e3 e4 e5 e6 e7 e8 e9 e10 e11 e12 e13 f6 f7
  generalize hck : ck = clk at *
  -- the real iterator
  have hF0 : FR ρ g N F0 a.tmps := ⟨hF.1, fun p q => by
    rcases hsub p q with hs | hs
    · rw [hs]; exact hF.2 p q
    · rw [hs]; exact .undef _⟩
  have hit := rdOf_ok hF (.tmp t)
  rw [ht] at hit
  obtain ⟨ib, ic, hib, hiv⟩ := hit.inv_ptr
  have hoi := hr.ob l' ib ic hib
  rw [hol] at hoi
  obtain ⟨hc0, bm, cm, hbm, hiw, hs0, _⟩ := hoi
  subst hc0
  have hlal : h.get l' ≠ .none := by rw [hol]; exact fun e => AO.noConfusion e
  have hlm : l' ≠ m := fun e => by rw [e, hom] at hol; cases hol
  have hLget : ∀ l0, l0 ≠ l' → hL.get l0 = h.get l0 := fun l0 h0 => by rw [hLg, if_neg h0]
  have hnb : ∀ l0 b0 c0, g.blk l0 = some (b0, c0) → l0 ≠ l' → h.get l0 ≠ .none → b0 ≠ ib := fun l0 b0 c0 hb0 hl0 hn0 e => by
    subst e
    exact hl0 (hr.inj _ _ _ _ _ hb0 hib hn0 hlal)
  -- the step to the heap without the iterator
  have hstep0 : Step ρ g h w g hL w := hr.dead hLn hLg ⟨hLf, hLl⟩
  have key : ∀ (n : Nat) (seen : Array Nat) (a1 : Act) (w1 : World), (bs.filter fun x => !seen.contains x).length < n → FR ρ g N F0 a1.tmps → Step ρ g h w g hL w1 → w1.heap[ib]? = some (.mapIter (some bm) clk seen clk) → (Mks P n0 g hL w1 a1.defers ∧ (r ≠ none → a1.defers = [])) →
      ∃ e a' w', CQ P ρ N n0 r g h w k e a' w' ∧ ArrivesIn (Machine.fenced P (FK r)) P (lone (b.atR a1 (.code (.seq (.region id ops false) y) :: .inLoop (.seq (.region id ops false) y) :: kk)) cs w1) b kk cs e a' w' := by
    intro n
    induction n with
    | zero => exact fun _ _ _ hn => absurd hn (Nat.not_lt_zero _)
    | succ n ih =>
      intro seen a1 w1 hn hF1 hs1 hi1 hd1
      have hr1 := hs1.hr
      have hom1 := hr1.ob m bm cm hbm
      rw [hLget m (Ne.symm hlm), hom] at hom1
      obtain ⟨ms, m1, m2, m3, m4⟩ := hom1
      have hold : ∀ x ∈ ms.toList, x.born < clk := fun x hx => hlt _ (by rw [← m4]; exact List.mem_map.2 ⟨x, hx, rfl⟩)
      have hev : a1.eval (.tmp t) = .pointer (some ⟨ib, 0, none⟩) := by
        have := rdOf_ok hF1 (.tmp t)
        rw [ht0] at this
        obtain ⟨ib', ic', h1, h2⟩ := this.inv_ptr
        rw [hib] at h1
        cases h1
        exact h2
      have hexec : execOp a1.eval o0 = (do pure (.value (← Instr.next (a1.eval (.tmp t)) false o0.type))) := by simp [execOp, hop]
      have hrange : List.range ops.size = 0 :: List.range' 1 (ops.size - 1) := range_succ (Array.getElem?_eq_some_iff.1 h0).1
      -- one run of the code: either a round, and all stands ready again, or the way out
      have hround : (Code.seq (.region id ops false) y).wpIn (FK r) 0 P (fun e a' w' => (e = .normal ∧ ∃ seen', (bs.filter fun x => !seen'.contains x).length < n ∧ FR ρ g N F0 a'.tmps ∧ Step ρ g h w g hL w' ∧ w'.heap[ib]? = some (.mapIter (some bm) clk seen' clk) ∧ (Mks P n0 g hL w' a'.defers ∧ (r ≠ none → a'.defers = []))) ∨
          (e ≠ .normal ∧ CQ P ρ N n0 r g h w k e a' w')) a1 w1 := by
        refine wpIn_seq (wpIn_region ?_)
        rw [hrange, wpOpsIn_cons]
        rcases run_next_at (P := P) w1 o0.type ib bm clk seen ms hi1 m1 hold with hrun | ⟨me, hme, hsee, dr, hrun⟩
        · -- none is left
          refine wpOp_of (K' := fun v w' => v = .tuple #[.bool false] ∧ w' = w1) h0 (by rw [semO_none hgd, exec_ok hexec (by rw [hev]; exact hrun)]; exact ⟨rfl, rfl⟩) fun v w' ⟨h1, h2⟩ => ?_
          subst h1; subst h2
          rw [hdst]
          obtain ⟨F1, eF, g1, g2⟩ := tset_true eL
          have hFF : FR ρ g N F1 (a1.put (some d) (.tuple #[.bool false])).tmps := hF1.put (.tup _ _ (.cons _ _ _ _ (.bool false) .nil)) (plOf_num d2) d1 g1 g2
          refine hrg ch F1 hL (mlB1 cy ch (mlEx k)) g _ w' _ hch eF hFF hr1 (fun F2 g2 h2 a2 w2 s2 f2 dd2 k2 => ?_) r
          refine wpIn_mono (hy ch F2 h2 (mlEx k) g2 a2 w2 r n0 hR hch (Nat.le_trans hn0 (Nat.le_trans hs1.size s2.size)) k2 f2 (by rw [dd2]; exact ⟨Mks.step s2 hd1.1, hd1.2⟩) s2.hr) fun e' a' w' q => ?_
          obtain ⟨x, F', g', h', rfl, s3, f3, dd3, hk⟩ := q
          cases x with
          | normal => exact Bool.noConfusion (show false = true from hk)
          | exit i => exact .inr ⟨fun h => Exit.noConfusion h, .exit i, F', g', h', rfl, (hs1.trans s2).trans s3, f3, dd3, hk⟩
          | ret => exact .inr ⟨fun h => Exit.noConfusion h, .ret, F', g', h', rfl, (hs1.trans s2).trans s3, f3, dd3, hk⟩
        · -- one entry
          obtain ⟨i, hi⟩ := List.getElem?_of_mem hme
          have hbi : bs[i]? = some me.born := by rw [← m4, List.getElem?_map, hi]; rfl
          have hlen : es.length = ms.toList.length := by have := VRs.length m2; simpa using this
          have hlti : i < es.length := by rw [hlen]; exact (List.getElem?_eq_some_iff.1 hi).1
          have hrk := hrnd i me.born (es[i]'hlti) hbi (List.getElem?_eq_getElem hlti)
          obtain ⟨hi2, eR, hin, hig, hif, hil⟩ := Hp.set_true hrk
          have hkv : VR ρ g (es[i]'hlti).1 me.key ∧ VR ρ g (es[i]'hlti).2 me.val := by
            obtain ⟨v1, w1', w2'⟩ := VRs.get m2 i (es[i]'hlti).1 (by rw [List.getElem?_map, List.getElem?_eq_getElem hlti]; rfl)
            obtain ⟨v2, w3', w4'⟩ := VRs.get m3 i (es[i]'hlti).2 (by rw [List.getElem?_map, List.getElem?_eq_getElem hlti]; rfl)
            rw [List.getElem?_map, hi] at w1' w3'
            cases w1'; cases w3'
            exact ⟨w2', w4'⟩
          generalize es[i]'hlti = ent at hrk hkv eR
          -- the ghost: what the iterator has seen
          have hgi : ∃ gi : G, gi.blk = g.blk ∧ gi.fin = g.fin ∧ gi.sz = g.sz ∧ gi.it l' = seen.push me.born ∧ ∀ l0, l0 ≠ l' → gi.it l0 = g.it l0 :=
            ⟨⟨g.blk, g.fin, g.sz, fun l0 => if l0 = l' then seen.push me.born else g.it l0⟩, rfl, rfl, rfl, by simp, fun l0 h0 => by simp [h0]⟩
          obtain ⟨gi, gi1, gi2, gi3, gi4, gi5⟩ := hgi
          have hlv : g.lv gi := fun l0 p hp => ⟨by rw [gi1]; exact hp, by rw [gi2], by rw [gi3]⟩
          have hvl : gi.lv g := fun l0 p hp => ⟨by rw [gi1] at hp; exact hp, by rw [gi2], by rw [gi3]⟩
          generalize hw2 : ({ w1 with drawn := dr, heap := w1.heap.setIfInBounds ib (.mapIter (some bm) clk (seen.push me.born) clk) } : World) = w2 at hrun
          have hilt : ib < w1.heap.size := (Array.getElem?_eq_some_iff.1 hi1).1
          have hw2b : w2.heap[ib]? = some (.mapIter (some bm) clk (seen.push me.born) clk) := by rw [← hw2]; simp [hilt]
          have hw2o : ∀ b0, b0 ≠ ib → w2.heap[b0]? = w1.heap[b0]? := fun b0 hb0 => by rw [← hw2]; exact Array.getElem?_setIfInBounds_ne (Ne.symm hb0)
          have hw2s : w2.heap.size = w1.heap.size := by rw [← hw2]; exact Array.size_setIfInBounds
          have hobj : ∀ l0 b0 c0, g.blk l0 = some (b0, c0) → l0 ≠ l' → OR ρ g w2 l0 b0 c0 (g.fin l0) (g.sz l0) (h.get l0) := fun l0 b0 c0 hb0 hl0 => by
            by_cases hz : h.get l0 = .none
            · rw [hz]; trivial
            · have := hr1.ob l0 b0 c0 hb0
              rw [hLget l0 hl0] at this
              exact OR.mono (hw2o b0 (hnb l0 b0 c0 hb0 hl0 hz)) g.le_refl rfl this
          -- values of g and of gi are the same
          have hORgi : ∀ l0 b0 c0, g.blk l0 = some (b0, c0) → l0 ≠ l' → OR ρ gi w2 l0 b0 c0 (gi.fin l0) (gi.sz l0) (h.get l0) := fun l0 b0 c0 hb0 hl0 => by
            have h1 := hobj l0 b0 c0 hb0 hl0
            rw [gi2, gi3]
            cases hx : h.get l0 with
            | none => trivial
            | cells z u n t =>
              rw [hx] at h1
              obtain ⟨cs, el, fz, k1, k2, k3, k4, k5, k6, kq, k7, k8⟩ := h1
              exact ⟨cs, el, fz, k1, k2, k3, k4, k5, k6, kq, k7, fun o a ho => let ⟨v, v1, v2⟩ := k8 o a ho; ⟨v, v1, v2.mono' hlv⟩⟩
            | map k bs es =>
              rw [hx] at h1
              obtain ⟨ms, k1, k2, k3, k4⟩ := h1
              exact ⟨ms, k1, k2.mono' hlv, k3.mono' hlv, k4⟩
            | strIt n x q => rw [hx] at h1; exact h1
            | mapIt m' s k a =>
              rw [hx] at h1
              obtain ⟨hc, bm', cm', k1, k2, k3, k4⟩ := h1
              exact ⟨hc, bm', cm', by rw [gi1]; exact k1, by rw [gi5 l0 hl0]; exact k2, fun h => by rw [gi5 l0 hl0]; exact k3 h, fun x h => by rw [gi5 l0 hl0]; exact k4 x h⟩
            | loop F N ps asg body st jp =>
              rw [hx] at h1
              obtain ⟨hc, fn, tm, df, k1, k2⟩ := h1
              exact ⟨hc, fn, tm, df, k1, k2.mono' hlv⟩
          have hri : HR ρ gi ⟨hi2.m, hi2.nx, hi2.nx.num⟩ w2 := by
            have hget : ∀ l0, (⟨hi2.m, hi2.nx, hi2.nx.num⟩ : Hp).get l0 = hi2.get l0 := fun _ => rfl
            refine ⟨fun l0 b0 c0 hb0 => ?_, fun l1 l2 b0 c1 c2 x1 x2 n1 n2 => ?_, fun l0 b0 c0 hb0 => ?_, fun l0 p hp => ?_⟩
            · rw [gi1] at hb0
              rw [hget, hig]
              by_cases hl0 : l0 = l'
              · subst hl0
                rw [hib] at hb0
                cases hb0
                rw [if_pos rfl]
                refine ⟨rfl, bm, cm, by rw [gi1]; exact hbm, by rw [gi4]; exact hw2b, fun h => (by cases h), fun x hx => ?_⟩
                have : x = me.born := by omega
                rw [gi4, this]; simp
              · rw [if_neg hl0]
                exact hORgi l0 b0 c0 hb0 hl0
            · rw [gi1] at x1 x2
              have hn : ∀ l0, (⟨hi2.m, hi2.nx, hi2.nx.num⟩ : Hp).get l0 ≠ .none → h.get l0 ≠ .none := fun l0 hn => by
                rw [hget, hig] at hn
                by_cases hl0 : l0 = l'
                · rw [hl0]; exact hlal
                · rwa [if_neg hl0] at hn
              exact hr.inj _ _ _ _ _ x1 x2 (hn _ n1) (hn _ n2)
            · rw [gi1] at hb0
              rw [hw2s]; exact hr1.lt _ _ _ hb0
            · rw [gi1] at hp
              show l0.num < hi2.nx.num
              rw [hin]; exact hr.nx _ _ hp
          refine wpOp_of (K' := fun v w' => v = .tuple #[.bool true, me.key, me.val] ∧ w' = w2) h0 (by rw [semO_none hgd, exec_ok hexec (by rw [hev]; exact hrun)]; exact ⟨rfl, rfl⟩) fun v w' ⟨h1, h2⟩ => ?_
          subst h1; subst h2
          rw [hdst]
          obtain ⟨F1, eF, g1, g2⟩ := tset_true eR
          have hFF : FR ρ gi N F1 (a1.put (some d) (.tuple #[.bool true, me.key, me.val])).tmps := (hF1.mono' hlv).put (.tup _ _ (.cons _ _ _ _ (.bool true) (.cons _ _ _ _ (hkv.1.mono' hlv) (.cons _ _ _ _ (hkv.2.mono' hlv) .nil)))) (plOf_num d2) d1 g1 g2
          have hfreeI : ∀ b0, b0 < w.heap.size → free g h b0 → free gi ⟨hi2.m, hi2.nx, hi2.nx.num⟩ b0 ∧ b0 ≠ ib := fun b0 hb0 hf => by
            have hne : b0 ≠ ib := fun e => by subst e; exact hlal (hf l' 0 hib)
            refine ⟨fun l0 c0 hl0 => ?_, hne⟩
            rw [gi1] at hl0
            show hi2.get l0 = .none
            rw [hig]
            by_cases hl0' : l0 = l'
            · subst hl0'
              rw [hib] at hl0
              cases hl0
              exact absurd rfl hne
            · rw [if_neg hl0']; exact hf l0 c0 hl0
          have hmk2 : Mks P n0 gi ⟨hi2.m, hi2.nx, hi2.nx.num⟩ w' a1.defers := by
            have : ∀ {ds : List Deferred}, Mks P n0 g hL w1 ds → Mks P n0 gi ⟨hi2.m, hi2.nx, hi2.nx.num⟩ w' ds := fun {ds} => by
              induction ds with
              | nil => exact fun _ => trivial
              | cons dd ds ihd =>
                intro ⟨⟨D, q1, q2, q3, q4, q5⟩, q6⟩
                have hDi : D ≠ ib := fun e => by rw [e, hi1] at q3; cases q3
                refine ⟨⟨D, q1, q2, (hw2o D hDi).trans q3, fun l0 c0 hl0 => ?_, q5⟩, ihd q6⟩
                rw [gi1] at hl0
                show hi2.get l0 = .none
                rw [hig]
                by_cases hl0' : l0 = l'
                · subst hl0'
                  rw [hib] at hl0
                  cases hl0
                  exact absurd rfl hDi
                · have := q4 l0 c0 hl0
                  rw [hLget l0 hl0'] at this
                  rw [if_neg hl0']; exact this
            exact this hd1.1
          refine hrg ch F1 ⟨hi2.m, hi2.nx, hi2.nx.num⟩ (mlB1 cy ch (mlOk F0)) gi _ w' _ hch eF hFF hri (fun F2 g2 h2 a2 w3 s2 f2 dd2 k2 => ?_) r
          refine wpIn_mono (hy ch F2 h2 (mlOk F0) g2 a2 w3 r n0 hR hch (Nat.le_trans hn0 (Nat.le_trans hs1.size (Nat.le_trans (by rw [hw2s]; exact Nat.le_refl _) s2.size))) k2 f2 (by rw [dd2]; exact ⟨Mks.step s2 hmk2, hd1.2⟩) s2.hr) fun e' a' w4 q => ?_
          obtain ⟨x, F', g', h', rfl, s3, f3, dd3, hk⟩ := q
          cases x with
          | exit i => exact Bool.noConfusion (show false = true from hk)
          | ret => exact Bool.noConfusion (show false = true from hk)
          | normal =>
            have s : Step ρ gi ⟨hi2.m, hi2.nx, hi2.nx.num⟩ w' g' h' w4 := s2.trans s3
            have hle := s.le
            have hgg : g.lv g' := G.lv_trans hlv hle.1
            have hke : ∀ l0 p, g.blk l0 = some p → h'.get l0 = hi2.get l0 := fun l0 p hp => s.ke l0 (by show l0.num < hi2.nx.num; rw [hin]; exact hr.nx _ _ hp)
            have hFb : FR ρ g N F0 a'.tmps := by
              have h1 := subF_true (show subF F0 F' = true from hk) f3
              exact ⟨h1.1, fun p q => VR.back hgg (hF1.2 p q) (h1.2 p q)⟩
            have hrb : HR ρ g hL w4 := by
              refine ⟨fun l0 b0 c0 hb0 => ?_, fun l1 l2 b0 c1 c2 x1 x2 n1 n2 => hr1.inj _ _ _ _ _ x1 x2 n1 n2, fun l0 b0 c0 hb0 => s.hr.lt l0 b0 c0 (hgg _ _ hb0).1, hr1.nx⟩
              by_cases hl0 : l0 = l'
              · rw [hl0, hLg, if_pos rfl]; trivial
              · rw [hLget l0 hl0]
                have hgb : gi.blk l0 = some (b0, c0) := by rw [gi1]; exact hb0
                have h1 := s.hr.ob l0 b0 c0 (hgg _ _ hb0).1
                rw [hke l0 _ hb0, hig, if_neg hl0, (hgg _ _ hb0).2.1, (hgg _ _ hb0).2.2] at h1
                have h2 := hORgi l0 b0 c0 hb0 hl0
                rw [gi2, gi3] at h2
                have h3 := OR.back hle hgb h2 h1
                -- from gi back to g
                have h4 := hobj l0 b0 c0 hb0 hl0
                cases hx : h.get l0 with
                | none => trivial
                | cells z u n t =>
                  rw [hx] at h3
                  obtain ⟨cs, el, fz, k1, k2, k3, k4, k5, k6, kq, k7, k8⟩ := h3
                  exact ⟨cs, el, fz, k1, k2, k3, k4, k5, k6, kq, k7, fun o a ho => let ⟨v, v1, v2⟩ := k8 o a ho; ⟨v, v1, v2.mono' hvl⟩⟩
                | map k bs es =>
                  rw [hx] at h3
                  obtain ⟨ms, k1, k2, k3, k4⟩ := h3
                  exact ⟨ms, k1, k2.mono' hvl, k3.mono' hvl, k4⟩
                | strIt n x q => rw [hx] at h3; exact h3
                | mapIt m' s' k a =>
                  rw [hx] at h3
                  obtain ⟨hc, bm', cm', k1, k2, k3, k4⟩ := h3
                  exact ⟨hc, bm', cm', by rw [← gi1]; exact k1, by rw [← gi5 l0 hl0]; exact k2, fun h => by rw [← gi5 l0 hl0]; exact k3 h, fun x h => by rw [← gi5 l0 hl0]; exact k4 x h⟩
                | loop F N ps asg body st jp =>
                  rw [hx] at h3
                  obtain ⟨hc, fn, tm, df, k1, k2⟩ := h3
                  exact ⟨hc, fn, tm, df, k1, k2.mono' hvl⟩
            have hib4 : w4.heap[ib]? = some (.mapIter (some bm) clk (seen.push me.born) clk) := by
              have hgl : gi.blk l' = some (ib, 0) := by rw [gi1]; exact hib
              have h1 := s.hr.ob l' ib 0 (hle.1 _ _ hgl).1
              rw [hke l' _ hib, hig, if_pos rfl] at h1
              obtain ⟨_, bm', cm', k1, k2, _⟩ := h1
              rw [(hle.1 m (bm, cm) (by rw [gi1]; exact hbm)).1] at k1
              cases k1
              rw [hle.2 l' _ hgl, gi4] at k2
              exact k2
            refine .inl ⟨rfl, seen.push me.born, ?_, hFb, ?_, hib4, ?_⟩
            · have := filter_len_lt (bs := bs) (b := me.born) (seen := seen) (List.mem_of_getElem? hbi) hsee
              omega
            · have hsz : w1.heap.size ≤ w4.heap.size := by rw [← hw2s]; exact s.size
              have hos : w'.os = w1.os ∧ w'.tape = w1.tape ∧ w'.output = w1.output := by rw [← hw2]; exact ⟨rfl, rfl, rfl⟩
              refine ⟨g.le_refl, hrb, s.os.trans (hos.1.trans hs1.os), s.tape.trans (hos.2.1.trans hs1.tape), s.output.trans (hos.2.2.trans hs1.output), Nat.le_trans hs1.size hsz, fun b0 hb0 hf => ?_, hs1.nx, hs1.un, hs1.fl, hs1.ke⟩
              obtain ⟨q1, q2⟩ := hs1.fr b0 hb0 hf
              obtain ⟨q3, q4⟩ := hfreeI b0 hb0 hf
              obtain ⟨q5, _⟩ := s.fr b0 (by rw [hw2s]; exact Nat.lt_of_lt_of_le hb0 hs1.size) q3
              exact ⟨q5.trans ((hw2o b0 q4).trans q1), q2⟩
            · refine ⟨?_, dd3.2⟩
              have : ∀ {ds : List Deferred}, Mks P n0 g' h' w4 ds → Mks P n0 g hL w4 ds := fun {ds} => by
                induction ds with
                | nil => exact fun _ => trivial
                | cons dd ds ihd =>
                  intro ⟨⟨D, q1, q2, q3, q4, q5⟩, q6⟩
                  refine ⟨⟨D, q1, q2, q3, fun l0 c0 hl0 => ?_, q5⟩, ihd q6⟩
                  have h1 := q4 l0 c0 (hgg _ _ hl0).1
                  rw [hke l0 _ hl0, hig] at h1
                  by_cases hl0' : l0 = l'
                  · rw [if_pos hl0'] at h1; cases h1
                  · rw [if_neg hl0'] at h1
                    rw [hLget l0 hl0']; exact h1
              exact this dd3.1
      obtain ⟨e1, a2, w2, hq, harr⟩ := hround b (.inLoop (.seq (.region id ops false) y) :: kk) cs hro trivial (FK.room r _)
      rcases hq with ⟨he, seen', q1, q2, q3, q4, q5⟩ | ⟨he, hq⟩
      · subst he
        obtain ⟨e3, a3, w3, hq3, harr3⟩ := ih seen' a2 w2 q1 q2 q3 q4 q5
        exact ⟨e3, a3, w3, hq3, .of_steps (StepsIn.trans harr (.one (FK.fenced r _) stepR_inLoop)) harr3⟩
      · exact ⟨e1, a2, w2, hq, .pass (x := .inLoop (.seq (.region id ops false) y)) rfl (fun _ _ => .inl he) harr⟩
  obtain ⟨e1, a1, w1, hq, harr⟩ := key _ #[] a w (Nat.lt_succ_self _) hF0 hstep0 (by rw [← hs0 rfl]; exact hiw) ⟨Mks.step hstep0 hd.1, hd.2⟩
  exact ⟨e1, a1, w1, hq, .of_steps (.one (FK.fenced r _) stepR_loop) harr⟩
end
end Ev
end Go.Proofs.YticoibkgeejkoaaGreatDoor
namespace Go.Proofs.YticoibkgeejkoaaGreatDoor
namespace Ev
set_option linter.unusedVariables false
noncomputable section
variable {ρ : Nat → Value} {P : Program} {N : Nat} {R : Option Nat → Prop}
def AO.ly (F : NT) (N : Nat) (ps : List Nat) (asg body : Code) (st : Nat) (jp : Option Code) (y : NT → Nat → List Nat → Code → Code → Nat → Option Code → Bool) : Bool := y F N ps asg body st jp
def AO.lpK (x : AO) (y : NT → Nat → List Nat → Code → Code → Nat → Option Code → Bool) : Bool :=
  AO.rec (motive := fun _ => (NT → Nat → List Nat → Code → Code → Nat → Option Code → Bool) → Bool) (fun _ => false) (fun _ _ _ _ _ => false) (fun _ _ _ _ => false) (fun _ _ _ _ => false) (fun _ _ _ _ _ => false) AO.ly x y
theorem AO.lpK_true {x : AO} {y : NT → Nat → List Nat → Code → Code → Nat → Option Code → Bool} (h : x.lpK y = true) : ∃ F N ps asg body st jp, x = .loop F N ps asg body st jp ∧ y F N ps asg body st jp = true := by
  cases x <;> first | exact ⟨_, _, _, _, _, _, _, rfl, h⟩ | exact Bool.noConfusion (show false = true from h)
def rfJ (k : Ex → NT → Hp → Bool) (F : NT) (jp : Option Code) (h : Hp) : Bool := match jp with
  | none => k .normal F h
  | some .ret => k .ret F h
  | some (.exit i) => k (.exit i) F h
  | _ => false
def rf4 (k : Ex → NT → Hp → Bool) (F : NT) (l : L) (h2 : Hp) (F' : NT) (N' : Nat) (ps : List Nat) (asg body : Code) (st : Nat) (jp : Option Code) : Bool := both (!(Nat.beq st (nat_lit 1))) (h2.set l (.loop F' N' ps asg body (nat_lit 3) jp) (rfJ k F jp))
def rf3 (k : Ex → NT → Hp → Bool) (F : NT) (l : L) (_ : AV) (h2 : Hp) : Bool := (h2.get l).lpK (rf4 k F l h2)
def rf2 (ch : CH) (k : Ex → NT → Hp → Bool) (F : NT) (l : L) (gf : Nat) (first cap : List AV) (h1 : Hp) : Bool := ch gf (first ++ (.yl l :: cap)) h1 (rf3 k F l)
def rf1 (Fs : FsT) (N : Nat) (ps : List Nat) (asg body : Code) (ch : CH) (F : NT) (h : Hp) (k : Ex → NT → Hp → Bool) (f : Fn) (first cap : List AV) : Bool :=
  Fn.rec (motive := fun _ => Bool) (fun g => both (bitD Fs.dyn g) (h.new (.loop F N ps asg body (nat_lit 0) none) (rf2 ch k F h.nx g first cap))) (fun _ => false) (fun _ _ => false) (fun _ _ _ _ => false) (fun _ => false) f
def rfR (Fs : FsT) (N : Nat) (g : Rd) (ps : List Nat) (asg body : Code) (ch : CH) (F : NT) (h : Hp) (k : Ex → NT → Hp → Bool) : Bool := (g.get F).fnK (rf1 Fs N ps asg body ch F h k)
theorem st_busy {st : Nat} (h : st ≠ 1) : (stOf st == LoopState.busy) = false := by
  match st, h with
  | 0, _ => rfl
  | 1, h => exact absurd rfl h
  | 2, _ => rfl
  | n + 3, _ => rfl
theorem ccRf_ok (hRn : ∀ r, R r → r = none) {Fs : FsT} (hFs : FTok P ρ Fs) {x : Operand} {ps : Array Nat} {asg body : Code} : Cc.ok R P ρ N (.rangeFunc x ps asg body) ⟨rfR Fs N (rdOf x) ps.toList asg body⟩ := fun ch F h k g a w r n0 hR hch hn0 e hF hd hr => by
  have := hRn r hR
  subst this
  obtain ⟨f, fa, fb, hf, e1⟩ := AV.fnK_true (v := (rdOf x).get F) e
  have hx := rdOf_ok (a := a) hF x
  rw [hf] at hx
  generalize hav : a.eval x = xv at hx
  cases hx with
  | fn _ _ _ a' b' ha hb =>
    cases f with
    | methodOf _ _ => exact Bool.noConfusion (show false = true from e1)
    | via _ _ _ _ => exact Bool.noConfusion (show false = true from e1)
    | method _ => exact Bool.noConfusion (show false = true from e1)
    | yield _ => exact Bool.noConfusion (show false = true from e1)
    | func gf =>
      have e2 : both (bitD Fs.dyn gf) (h.new (.loop F N ps.toList asg body 0 none) (rf2 ch k F h.nx gf fa fb)) = true := e1
      · obtain ⟨q1, e5⟩ := both_true e2
        obtain ⟨d1, d2, d3⟩ := hFs.dy gf q1
        obtain ⟨h1, e6, hn1, hg1, hf1⟩ := Hp.new_true e5
        refine wpIn_rangeFunc fun fnid _ => ?_
        -- the blocks
        have sA := Step.block hr (.deferred (some []))
        generalize hwA : ({ w with heap := w.heap.push (.deferred (some [])) } : World) = wA at sA
        have hszA : wA.heap.size = w.heap.size + 1 := by rw [← hwA]; simp
        have hDA : wA.heap[w.heap.size]? = some (.deferred (some [])) := by rw [← hwA]; simp
        have hle := G.ext_le sA.hr.fresh wA.heap.size 0 0 0
        have hor : OR ρ (g.ext h.nx wA.heap.size 0 0 0) { wA with heap := wA.heap.push (.loop { state := .ready, pending := none, fn := fnid, tmps := a.tmps, params := ps, assign := asg, body, defers := w.heap.size }) } h.nx wA.heap.size 0 0 0 (.loop F N ps.toList asg body 0 none) :=
          ⟨rfl, fnid, a.tmps, w.heap.size, by simp [stOf], hF.mono hle⟩
        have sB := sA.hr.new (h' := h1) _ (.loop { state := .ready, pending := none, fn := fnid, tmps := a.tmps, params := ps, assign := asg, body, defers := w.heap.size }) 0 0 hn1 hg1 hf1 hor
        have sAB := sA.trans sB
        generalize hwB : ({ wA with heap := wA.heap.push (.loop { state := .ready, pending := none, fn := fnid, tmps := a.tmps, params := ps, assign := asg, body, defers := w.heap.size }) } : World) = wB at sB sAB hor
        have hbl : (g.ext h.nx wA.heap.size 0 0 0).blk h.nx = some (wA.heap.size, 0) := (g.ext_new _ _ _ _ _).1
        have henter : (Instr.enterLoop fnid a.tmps ps asg body (FK none).round).run P w = .ok (wA.heap.size, [{ target := .collected w.heap.size, args := #[] }]) wB := by
          rw [← hwB, ← hwA]
          simp [Instr.enterLoop, FK, newObj, Sem.run_bind, Sem.run, Result.andThen]
          exact ⟨rfl, rfl, rfl⟩
        have hdfree : free g h w.heap.size := fun l0 c0 hl0 => absurd (hr.lt _ _ _ hl0) (Nat.lt_irrefl _)
        have hDB : wB.heap[w.heap.size]? = some (.deferred (some [])) := by
          have := (sB.fr w.heap.size (by omega) hdfree).1
          rw [this]; exact hDA
        have hfB : free (g.ext h.nx wA.heap.size 0 0 0) h1 w.heap.size := (sB.fr w.heap.size (by omega) hdfree).2
        have hmks : Mks P n0 (g.ext h.nx wA.heap.size 0 0 0) h1 wB ({ target := .collected w.heap.size, args := #[] } :: a.defers) := by
          refine ⟨⟨w.heap.size, rfl, hn0, hDB, hfB, fun d' hd' ht => ?_⟩, Mks.step sAB hd.1⟩
          have : ∀ {ds : List Deferred}, Mks P n0 g h w ds → ∀ d' ∈ ds, d'.target ≠ .collected w.heap.size := fun {ds} => by
            induction ds with
            | nil => exact fun _ d' hd' => absurd hd' List.not_mem_nil
            | cons dd ds ih =>
              intro ⟨⟨D, m1, m2, m3, m4, m5⟩, m6⟩ d' hd' ht
              rcases List.mem_cons.1 hd' with rfl | hd'
              · rw [m1] at ht
                have hD : D = w.heap.size := by simpa using ht
                have := (Array.getElem?_eq_some_iff.1 m3).1
                omega
              · exact ih m6 d' hd' ht
          exact this hd.1 d' hd' ht
        have hres : (resolve a.eval (rangeCall x wA.heap.size) 0).run P wB = .ok { target := .fn (.func gf) b', args := a' ++ #[Value.func (.yield wA.heap.size) #[] #[]] } wB := by
          have hy : a.eval (.const (.func (.yield wA.heap.size) #[] #[])) = .func (.yield wA.heap.size) #[] #[] := rfl
          simp [resolve, rangeCall, hav, Deferred.ofValue, hy]
        have hinv : (invoke (.fn (.func gf) b') (a' ++ #[Value.func (.yield wA.heap.size) #[] #[]])).run P wB = .ok (.enter gf (a' ++ #[Value.func (.yield wA.heap.size) #[] #[]] ++ b')) wB := by
          show (callFunc gf _).run P wB = _
          exact d1 _ _
        have hargs : VRs ρ (g.ext h.nx wA.heap.size 0 0 0) (fa ++ (.yl h.nx :: fb)) (a' ++ #[Value.func (.yield wA.heap.size) #[] #[]] ++ b').toList := by
          have := (ha.mono hle).append (VRs.cons _ _ _ _ (VR.yl h.nx wA.heap.size hbl) (hb.mono hle))
          simpa using this
        have hcall := hch.1 gf _ _ _ h1 wB (rf3 k F h.nx) d2 d3 e6 hargs sB.hr
        refine ⟨wA.heap.size, _, wB, _, wB, gf, _, wB, henter, hres, fun _ _ => trivial, hinv, fun h => (by cases h), ?_⟩
        refine (FK.calls (r := none) hcall).mono fun e' w3 ⟨v, he', av, g2, h2, s2, hvr, e7⟩ => ?_
        subst he'
        obtain ⟨F', N', ps', asg', body', st, jp, ho2, e8⟩ := AO.lpK_true e7
        obtain ⟨q4, e9⟩ := both_true e8
        have q4 : st ≠ 1 := beq_false (by simpa using q4)
        obtain ⟨h3, e10, hn3, hg3, hf3⟩ := Hp.set_true e9
        have hbl2 := (s2.le.1 _ _ hbl).1
        have hob := s2.hr.ob h.nx _ _ hbl2
        rw [ho2] at hob
        obtain ⟨_, fn', tm', df', k1, k2⟩ := hob
        have hlt3 := s2.hr.lt _ _ _ hbl2
        have s3 := s2.hr.obj (h' := h3) hbl2 (by rw [ho2]; exact fun e => AO.noConfusion e) (.loop F' N' ps' asg' body' 3 jp) (.loop { state := .exhausted, pending := jp, fn := fn', tmps := tm', params := ps'.toArray, assign := asg', body := body', defers := df' }) hn3 hg3 hf3 (fun e => AO.noConfusion e)
          ⟨rfl, fn', tm', df', by simp [hlt3, stOf], k2⟩
        generalize hw4 : ({ w3 with heap := w3.heap.setIfInBounds wA.heap.size (.loop { state := .exhausted, pending := jp, fn := fn', tmps := tm', params := ps'.toArray, assign := asg', body := body', defers := df' }) } : World) = w4 at s3
        have hend : (Instr.endLoop wA.heap.size).run P w3 = .ok jp w4 := by
          rw [← hw4]
          have hnb : ¬ stOf st = .busy := fun h => by have := st_busy q4; rw [h] at this; cases this
          simp [Instr.endLoop, Instr.getLoop, getObj, setObj, Sem.run_bind, Sem.run, k1, Result.andThen, hnb]
        have hall := (sAB.trans s2).trans s3
        have hFR : FR ρ g2 N F a.tmps := hF.mono (G.le_trans hle s2.le)
        have hmk4 : Mks P n0 g2 h3 w4 ({ target := .collected w.heap.size, args := #[] } :: a.defers) := Mks.step s3 (Mks.step s2 hmks)
        refine ⟨jp, w4, hend, ?_⟩
        cases jp with
        | none => exact ⟨.normal, F, g2, h3, rfl, hall, hFR, ⟨hmk4, fun h => absurd rfl h⟩, e10⟩
        | some c =>
          cases c with
          | ret => exact wpIn_ret ⟨.ret, F, g2, h3, rfl, hall, hFR, ⟨hmk4, fun h => absurd rfl h⟩, e10⟩
          | exit i => exact wpIn_exit ⟨.exit i, F, g2, h3, rfl, hall, hFR, ⟨hmk4, fun h => absurd rfl h⟩, e10⟩
          | _ => exact Bool.noConfusion (show false = true from e10)
def argsP (N : Nat) : List Nat → List AV → NT → (NT → Bool) → Bool
  | [], [], F, k => k F
  | t :: ps, a :: as, F, k => both (Nat.ble (Nat.succ t) N) (both (Nat.ble (Nat.succ t) (nat_lit 256)) ((plOf t).set (fun F => argsP N ps as F k) F a))
  | _, _, _, _ => false
theorem argsP_true {g : G} : ∀ {ps : List Nat} {as : List AV} {args : List Value} {F : NT} {k : NT → Bool} {tm : Array Value}, argsP N ps as F k = true → VRs ρ g as args → FR ρ g N F tm → ps.length = args.length ∧ ∃ F', k F' = true ∧ FR ρ g N F' ((ps.zip args).foldl (fun t (p, v) => t.setIfInBounds p v) tm)
  | [], [], args, F, k, tm, e, hv, hF => by cases hv; exact ⟨rfl, F, e, hF⟩
  | t :: ps, a :: as, args, F, k, tm, e, hv, hF => by
    cases hv with
    | cons _ v _ vs h1 h2 =>
    unfold argsP at e
    obtain ⟨d1, e1⟩ := both_true e
    obtain ⟨d2, e2⟩ := both_true e1
    obtain ⟨F1, e3, g1, g2⟩ := tset_true e2
    obtain ⟨r1, F', r2, r3⟩ := argsP_true e3 h2 (hF.put h1 (plOf_num (ble_true d2)) (ble_true d1) g1 g2)
    exact ⟨by simp [r1], F', r2, by simpa using r3⟩
  | [], _ :: _, _, _, _, _, e, _, _ => by unfold argsP at e; cases e
  | _ :: _, [], _, _, _, _, e, _, _ => by unfold argsP at e; cases e
def yl6 (l : L) (h : Hp) (c : AV → Hp → Bool) (x : Ex) (F : NT) (N : Nat) (ps : List Nat) (asg body : Code) (_ : Nat) (_ : Option Code) : Bool :=
  Ex.rec (motive := fun _ => Bool) (h.set l (.loop F N ps asg body (nat_lit 0) none) (c (.bool true))) (fun i => h.set l (.loop F N ps asg body (nat_lit 2) (some (.exit i))) (c (.bool false))) (h.set l (.loop F N ps asg body (nat_lit 2) (some .ret)) (c (.bool false))) x
def yl5 (l : L) (c : AV → Hp → Bool) (x : Ex) (_ : NT) (h : Hp) : Bool := (h.get l).lpK (yl6 l h c x)
def yl4 (cb : Cc) (ch : CH) (l : L) (c : AV → Hp → Bool) (F2 : NT) (h2 : Hp) (F : NT) (N : Nat) (ps : List Nat) (asg body : Code) (st : Nat) (jp : Option Code) : Bool :=
  both (Nat.beq st (nat_lit 0)) (h2.set l (.loop F N ps asg body (nat_lit 1) jp) fun h3 => cb.run ch F2 h3 (yl5 l c))
def yl3 (cb : Cc) (ch : CH) (l : L) (c : AV → Hp → Bool) (x : Ex) (F2 : NT) (h2 : Hp) : Bool := Ex.rec (motive := fun _ => Bool) ((h2.get l).lpK (yl4 cb ch l c F2 h2)) (fun _ => false) false x
def yl2 (cs : Nat → Code → Cc) (ch : CH) (l : L) (as : List AV) (h : Hp) (c : AV → Hp → Bool) (F : NT) (N : Nat) (ps : List Nat) (asg body : Code) (st : Nat) (_ : Option Code) : Bool :=
  argsP N ps as F fun F1 => (cs N asg).run ch F1 h (yl3 (cs N body) ch l c)
def yl1 (cs : Nat → Code → Cc) (ch : CH) (as : List AV) (h : Hp) (c : AV → Hp → Bool) (l : L) : Bool := (h.get l).lpK (yl2 cs ch l as h c)
def ylR (cs : Nat → Code → Cc) (ch : CH) (la : List AV) (h : Hp) (c : AV → Hp → Bool) : Bool := match la with
  | v :: as => ylK v (yl1 cs ch as h c)
  | [] => false
theorem ylR_ok {cs : Nat → Code → Cc} (hcs : ∀ N c, Cc.ok (fun _ => True) P ρ N c (cs N c)) : Yc.ok P ρ ⟨ylR cs⟩ := fun ch l b la args g h w c hch e hb hv hr => by
  obtain ⟨l', hl', e1⟩ := ylK_true (show ylK (.yl l) (yl1 cs ch la h c) = true from e)
  cases hl'
  obtain ⟨F, N, ps, asg, body, st, jp, ho, e2⟩ := AO.lpK_true e1
  have hob := hr.ob l b 0 hb
  rw [ho] at hob
  obtain ⟨_, fn, tm, df, k1, k2⟩ := hob
  obtain ⟨hlen, F1, e3, hF1⟩ := argsP_true e2 hv k2
  have hzip : (ps.toArray.zip args).foldl (fun t (p, v) => t.setIfInBounds p v) tm = (ps.zip args.toList).foldl (fun t (p, v) => t.setIfInBounds p v) tm := by
    rw [← Array.foldl_toList, Array.toList_zip]
  have hsize : args.size = ps.toArray.size := by
    have : ps.length = args.size := by rw [hlen, Array.length_toList]
    simp [this]
  refine ⟨fn, (ps.toArray.zip args).foldl (fun t (p, v) => t.setIfInBounds p v) tm, asg, body, ?_, ?_⟩
  · simp [Instr.yield, Instr.getLoop, getObj, Sem.run_bind, Sem.run, k1, Result.andThen, hsize]
  · refine roundIn_of_wpIn trivial ?_
    show asg.wpIn (FK (some b)) 0 P _ _ w
    refine wpIn_mono (hcs N asg ch F1 h (yl3 (cs N body) ch l c) g ⟨_, []⟩ w (some b) 0 trivial hch (Nat.zero_le _) e3 (by rw [hzip]; exact hF1) ⟨trivial, fun _ => rfl⟩ hr) fun e' a1 w1 q => ?_
    obtain ⟨x, F2, g2, h2, rfl, s2, f2, ⟨_, dd2⟩, e4⟩ := q
    cases x with
    | exit i => exact Bool.noConfusion (show false = true from e4)
    | ret => exact Bool.noConfusion (show false = true from e4)
    | normal =>
      obtain ⟨F', N', ps', asg', body', st', jp', ho2, e5⟩ := AO.lpK_true (show (h2.get l).lpK (yl4 (cs N body) ch l c F2 h2) = true from e4)
      obtain ⟨q1, e6⟩ := both_true e5
      have q1' := beq_true q1
      subst q1'
      obtain ⟨h3, e7, hn3, hg3, hf3⟩ := Hp.set_true e6
      have hb2 := (s2.le.1 _ _ hb).1
      have hob2 := s2.hr.ob l b 0 hb2
      rw [ho2] at hob2
      obtain ⟨_, fn', tm', df', m1, m2⟩ := hob2
      have hlt2 := s2.hr.lt _ _ _ hb2
      have s3 := s2.hr.obj (h' := h3) hb2 (by rw [ho2]; exact fun e => AO.noConfusion e) (.loop F' N' ps' asg' body' 1 jp') (.loop { state := .busy, pending := jp', fn := fn', tmps := tm', params := ps'.toArray, assign := asg', body := body', defers := df' }) hn3 hg3 hf3 (fun e => AO.noConfusion e)
        ⟨rfl, fn', tm', df', by simp [hlt2, stOf], m2⟩
      generalize hw2 : ({ w1 with heap := w1.heap.setIfInBounds b (.loop { state := .busy, pending := jp', fn := fn', tmps := tm', params := ps'.toArray, assign := asg', body := body', defers := df' }) } : World) = w2 at s3
      have hbeg : (Instr.beginRound b).run P w1 = .ok () w2 := by
        rw [← hw2]
        simp [Instr.beginRound, Instr.getLoop, getObj, setObj, Sem.run_bind, Sem.run, m1, Result.andThen, stOf]
      have hd1 : a1.defers = [] := dd2 (by simp)
      refine ⟨w2, hbeg, ?_⟩
      show body.wpIn (FK (some b)) 0 P _ _ w2
      refine wpIn_mono (hcs N body ch F2 h3 (yl5 l c) g2 a1 w2 (some b) 0 trivial hch (Nat.zero_le _) e7 f2 ⟨by rw [hd1]; trivial, fun _ => hd1⟩ s3.hr) fun e' a3 w3 q => ?_
      obtain ⟨x, F4, g4, h4, rfl, s4, f4, _, e8⟩ := q
      obtain ⟨F5, N5, ps5, asg5, body5, st5, jp5, ho4, e9⟩ := AO.lpK_true e8
      have hb4 := (s4.le.1 _ _ hb2).1
      have hob4 := s4.hr.ob l b 0 hb4
      rw [ho4] at hob4
      obtain ⟨_, fn5, tm5, df5, p1, p2⟩ := hob4
      have hlt4 := s4.hr.lt _ _ _ hb4
      have hall := (s2.trans s3).trans s4
      have fin : ∀ (st6 : Nat) (jp6 : Option Code) (v : Bool), (if jp6.isNone then LoopState.ready else LoopState.done) = stOf st6 → v = jp6.isNone → h4.set l (.loop F5 N5 ps5 asg5 body5 st6 jp6) (c (.bool v)) = true →
          ∃ v' w', (Instr.endRound b jp6).run P w3 = .ok v' w' ∧ ∃ v2, Ending.returned v' = .returned v2 ∧ ∃ a g' h', Step ρ g h w g' h' w' ∧ VR ρ g' a v2 ∧ c a h' = true := fun st6 jp6 v hst hv6 e10 => by
        obtain ⟨h5, e11, hn5, hg5, hf5⟩ := Hp.set_true e10
        have s5 := s4.hr.obj (h' := h5) hb4 (by rw [ho4]; exact fun e => AO.noConfusion e) (.loop F5 N5 ps5 asg5 body5 st6 jp6) (.loop { state := stOf st6, pending := jp6, fn := fn5, tmps := tm5, params := ps5.toArray, assign := asg5, body := body5, defers := df5 }) hn5 hg5 hf5 (fun e => AO.noConfusion e)
          ⟨rfl, fn5, tm5, df5, by simp [hlt4], p2⟩
        refine ⟨.bool v, _, ?_, .bool v, rfl, .bool v, g4, h5, hall.trans s5, .bool v, e11⟩
        rw [hv6]
        have hst' : (if jp6 = none then LoopState.ready else LoopState.done) = stOf st6 := by simpa using hst
        simp [Instr.endRound, Instr.getLoop, getObj, setObj, Sem.run_bind, Sem.run, p1, Result.andThen, hst']
      cases x with
      | normal => exact fin 0 none true rfl rfl e9
      | exit i => exact fin 2 (some (.exit i)) false rfl rfl e9
      | ret => exact fin 2 (some .ret) false rfl rfl e9
def wrO : List Oper → List Nat → List Nat
  | [], m => m
  | o :: l, m => match o.dst with
    | some t => wrO l (t :: m)
    | none => wrO l m
def wrC : Code → List Nat → List Nat
  | .region _ ops _, m => wrO ops.toList m
  | .seq x y, m => wrC x (wrC y m)
  | .cond _ x y, m => wrC x (wrC y m)
  | .block _ x, m => wrC x m
  | .loop x, m => wrC x m
  | .scope x, m => wrC x m
  | .rangeFunc _ ps x y, m => ps.toList ++ wrC x (wrC y m)
  | _, m => m
def mlOf : List Oper → Option (Nat × Nat)
  | o :: _ => match o.op, o.guard, o.dst with
    | .next (.tmp t) false, none, some d => some (t, d)
    | _, _, _ => none
  | [] => none
def ccOf (T : Nat → Option Ty) (Fs : FsT) (N : Nat) (rr : Bool) : Code → Cc
  | .skip => ccSkip
  | .label _ => ccSkip
  | .region _ ops false => ccReg (rgAllG T Fs N ops.toList ops.toList)
  | .region _ ops true => ccDr T Fs N ops.toList
  | .seq x y => ccSeq (ccOf T Fs N rr x) (ccOf T Fs N rr y)
  | .cond o x y => ccCond o (ccOf T Fs N rr x) (ccOf T Fs N rr y)
  | .block id x => ccBlock id (ccOf T Fs N rr x)
  | .loop (.seq (.region id ops false) y) => match mlOf ops.toList with
    | some (t, d) => ⟨mlR t d (wrO ops.toList (wrC y [])) N (rgAllG T Fs N ops.toList ops.toList.tail) (ccOf T Fs N rr y)⟩
    | none => ccLoop (ccSeq (ccReg (rgAllG T Fs N ops.toList ops.toList)) (ccOf T Fs N rr y))
  | .loop x => ccLoop (ccOf T Fs N rr x)
  | .rangeFunc x ps asg body => match rr with
    | true => ccNo
    | false => ⟨rfR Fs N (rdOf x) ps.toList asg body⟩
  | .exit id => ccExit id
  | .ret => ccRet
  | _ => ccNo
def RR (rr : Bool) (r : Option Nat) : Prop := rr = false → r = none
theorem mlOf_some {ops : Array Oper} {t d : Nat} (h : mlOf ops.toList = some (t, d)) : ∃ o, ops[0]? = some o ∧ o.op = .next (.tmp t) false ∧ o.guard = none ∧ o.dst = some d := by
  cases hl : ops.toList with
  | nil => rw [hl] at h; cases h
  | cons o l =>
    rw [hl] at h
    have h : (match o.op, o.guard, o.dst with | .next (.tmp t) false, none, some d => some (t, d) | _, _, _ => none) = some (t, d) := h
    split at h
    · rename_i h1 h2 h3
      cases h
      exact ⟨o, by rw [← Array.getElem?_toList, hl]; rfl, h1, h2, h3⟩
    · cases h
theorem ccOf_ok (hm : P.follows .mixedOrders = true) (hρ : ∀ i, (ρ i).oneCell = true) {T : Nat → Option Ty} {Fs : FsT} (hT : TTok P T) (hFs : FTok P ρ Fs) {rr : Bool} (c : Code) : Cc.ok (RR rr) P ρ N c (ccOf T Fs N rr c) := by
  have reg : ∀ (id : Nat) (ops : Array Oper), Cc.ok (RR rr) P ρ N (.region id ops false) (ccReg (rgAllG T Fs N ops.toList ops.toList)) := fun id ops => by
    refine ccReg_ok ?_
    have := rgAllG_ok hρ (N := N) hT hFs ops ops.toList 0 (fun j => by rw [Nat.zero_add, Array.getElem?_toList])
    rwa [Array.length_toList, ← List.range_eq_range'] at this
  fun_induction ccOf T Fs N rr c with
  | case1 => exact ccSkip_ok
  | case2 => exact ccLabel_ok
  | case3 id ops => exact reg id ops
  | case4 => exact ccDr_ok hm hρ hT hFs
  | case5 x y hx hy => exact ccSeq_ok hx hy
  | case6 o x y hx hy => exact ccCond_ok hx hy
  | case7 id x hx => exact ccBlock_ok hx
  | case8 id ops y t d hml hy =>
    obtain ⟨o, h1, h2, h3, h4⟩ := mlOf_some hml
    refine ccMl_ok h1 h2 h3 h4 ?_ hy
    have := rgAllG_ok hρ (N := N) hT hFs ops ops.toList.tail 1 (fun j => by
      rw [List.getElem?_tail, Array.getElem?_toList, Nat.add_comm])
    rwa [List.length_tail, Array.length_toList] at this
  | case9 id ops y hml hy => exact ccLoop_ok (ccSeq_ok (reg id ops) hy)
  | case10 x _ hx => exact ccLoop_ok hx
  | case11 => exact ccNo_ok
  | case12 => exact ccRf_ok (fun r hr => hr ‹_›) hFs
  | case13 => exact ccExit_ok
  | case14 => exact ccRet_ok
  | case15 => exact ccNo_ok
def fcOf (T : Nat → Option Ty) (Fs : FsT) (f : Nat) : Fc := match Fs f with
  | none => fcNo
  | some fn => match fn.body with
    | none => fcNo
    | some c => ⟨fnR (ccOf T Fs fn.ntmps false c) (rsOf T fn.results.toList)⟩
theorem Cc.ok.weaken {R R' : Option Nat → Prop} {c : Code} {cc : Cc} (h : Cc.ok R P ρ N c cc) (hR : ∀ r, R' r → R r) : Cc.ok R' P ρ N c cc := fun ch F h' k g a w r n0 hr => h ch F h' k g a w r n0 (hR r hr)
theorem fcOf_ok (hm : P.follows .mixedOrders = true) (hρ : ∀ i, (ρ i).oneCell = true) {T : Nat → Option Ty} {Fs : FsT} (hT : TTok P T) (hFs : FTok P ρ Fs) (f : Nat) : Fc.ok P ρ f (fcOf T Fs f) := by
  unfold fcOf
  split
  · exact fcNo_ok
  · rename_i fn hfn
    split
    · exact fcNo_ok
    · rename_i c hc
      exact fnR_ok (hFs _ _ hfn).1 hc ((ccOf_ok hm hρ hT hFs c).weaken fun r hr _ => hr) (rsOf_ok hT)
def evC (T : Nat → Option Ty) (Fs : FsT) (n : Nat) : CH := callF ⟨ylR (fun N c => ccOf T Fs N true c)⟩ (fcOf T Fs) n
theorem evC_ok (hm : P.follows .mixedOrders = true) (hρ : ∀ i, (ρ i).oneCell = true) {T : Nat → Option Ty} {Fs : FsT} (hT : TTok P T) (hFs : FTok P ρ Fs) (n : Nat) : CHok P ρ (evC T Fs n) :=
  callF_ok (ylR_ok fun N c => (ccOf_ok hm hρ hT hFs c).weaken fun r _ h => by cases h) (fcOf_ok hm hρ hT hFs) n
def hp0 : Hp := ⟨NH.fill (NQ.fill (NP.fill (NO.fill .none))), ⟨.d0, .d0, .d0, .d0⟩, nat_lit 0⟩
def isT (a : AV) (_ : Hp) : Bool := a.boolK true false
theorem ev_true (hm : P.follows .mixedOrders = true) (hρ : ∀ i, (ρ i).oneCell = true) {T : Nat → Option Ty} {Fs : FsT} (hT : TTok P T) (hFs : FTok P ρ Fs) {n f : Nat} {la : List AV} {args : Array Value} {w : World} (hf : Fs f ≠ none) (hf2 : f ≠ YL) (e : evC T Fs n f la hp0 isT = true)
    (hv : ∀ g, VRs ρ g la args.toList) : Calls P f args w fun e w' => e = .returned (.bool true) ∧ w'.os = w.os ∧ w'.tape = w.tape ∧ w'.output = w.output ∧ w.heap.size ≤ w'.heap.size ∧ ∀ b, b < w.heap.size → w'.heap[b]? = w.heap[b]? := by
  have hne : P.funcs[f]? ≠ none := by
    cases hfn : Fs f with
    | none => exact absurd hfn hf
    | some fn => rw [(hFs _ _ hfn).1]; simp
  let g0 : G := ⟨fun _ => none, fun _ => 0, fun _ => 0, fun _ => #[]⟩
  have hr : HR ρ g0 hp0 w := ⟨fun l b c h => (by cases h), fun l l' b c c' h => (by cases h), fun l b c h => (by cases h), fun l p h => (by cases h)⟩
  refine Calls.mono ((evC_ok hm hρ hT hFs n).1 f la args g0 hp0 w isT hne hf2 e (hv g0) hr) fun e' w' ⟨v, he, a, g', h', s, hva, hc⟩ => ?_
  rcases AV.boolK_true (v := a) hc with ⟨h1, _⟩ | ⟨_, h1⟩
  · subst h1
    have := hva.inv_bool
    subst this
    exact ⟨he, s.os, s.tape, s.output, s.size, fun b hb => (s.fr b hb fun l c h => by cases h).1⟩
  · cases h1
end
end Ev
end Go.Proofs.YticoibkgeejkoaaGreatDoor
namespace Go.Proofs.YticoibkgeejkoaaGreatDoor
namespace Ev
set_option linter.unusedVariables false
noncomputable section
variable {ρ : Nat → Value} {P : Program}
def fork0 (k : Nat → Bool) (m : Nat) (ih : Bool) : Bool := both (k m) ih
def forkK (n : Nat) (k : Nat → Bool) : Bool := Nat.rec (motive := fun _ => Bool) true (fork0 k) n
theorem forkK_true : ∀ {n : Nat} {k : Nat → Bool}, forkK n k = true → ∀ m, m < n → k m = true
  | 0, k, _, m, hm => absurd hm (Nat.not_lt_zero _)
  | n + 1, k, e, m, hm => by
    obtain ⟨e1, e2⟩ := both_true (show both (k n) (forkK n k) = true from e)
    rcases Nat.lt_or_ge m n with h | h
    · exact forkK_true e2 m h
    · rw [show m = n from by omega]; exact e1
def hkc (h : Hp) (c : AV → Hp → Bool) (a : AV) : Bool := c a h
def hkR (r : List AV → (AV → Bool) → Bool) (_ : CH) (la : List AV) (h : Hp) (c : AV → Hp → Bool) : Bool := r la (hkc h c)
theorem hkR_ok {f : Nat} {r : List AV → (AV → Bool) → Bool} (hr : ∀ (la : List AV) (args : Array Value) (g : G) (k : AV → Bool), r la k = true → VRs ρ g la args.toList → ∃ v, (∀ w, Calls P f args w fun e w' => e = .returned v ∧ w' = w) ∧ ∃ a, VR ρ g a v ∧ k a = true) : Fc.ok P ρ f ⟨hkR r⟩ := fun ch la args g h w c _ e hv hR => by
  obtain ⟨v, h1, a, h2, h3⟩ := hr la args g (hkc h c) e hv
  exact Calls.mono (h1 w) fun e' w' ⟨he, hw⟩ => by
    subst hw
    exact ⟨v, he, a, g, h, Step.refl hR, h2, h3⟩
def hkT (_ : CH) (_ : List AV) (h : Hp) (c : AV → Hp → Bool) : Bool := c (.bool true) h
theorem hkT_ok {f : Nat} (hf : ∀ (args : Array Value) (w : World), args.size = 0 → Calls P f args w fun e w' => e = .returned (.bool true) ∧ w'.os = w.os ∧ w'.tape = w.tape ∧ w'.output = w.output ∧ w.heap.size ≤ w'.heap.size ∧ ∀ b, b < w.heap.size → w'.heap[b]? = w.heap[b]?) :
    Fc.ok P ρ f ⟨fun ch la h c => List.rec (motive := fun _ => Bool) (hkT ch la h c) (fun _ _ _ => false) la⟩ := fun ch la args g h w c _ e hv hR => by
  cases la with
  | cons a l => exact Bool.noConfusion (show false = true from e)
  | nil =>
    have e : c (.bool true) h = true := e
    have hsz : args.size = 0 := by rw [← Array.length_toList, ← hv.length]; rfl
    exact Calls.mono (hf args w hsz) fun e' w' ⟨he, h1, h2, h3, h4, h5⟩ => by
      have hr' : HR ρ g h w' := ⟨fun l b c hb => OR.mono (h5 b (hR.lt _ _ _ hb)) g.le_refl rfl (hR.ob l b c hb), hR.inj, fun l b c hb => Nat.lt_of_lt_of_le (hR.lt _ _ _ hb) h4, hR.nx⟩
      exact ⟨_, he, .bool true, g, h, ⟨g.le_refl, hr', h1, h2, h3, h4, fun b hb hf => ⟨h5 b hb, hf⟩, Nat.le_refl _, fun _ _ h => ⟨h, .inl rfl⟩, rfl, fun _ _ => rfl⟩, .bool _, e⟩
def evH (T : Nat → Option Ty) (Fs : FsT) (tab : Nat → Fc) (n : Nat) : CH := callF ⟨ylR (fun N c => ccOf T Fs N true c)⟩ tab n
theorem evH_ok (hm : P.follows .mixedOrders = true) (hρ : ∀ i, (ρ i).oneCell = true) {T : Nat → Option Ty} {Fs : FsT} (hT : TTok P T) (hFs : FTok P ρ Fs) {tab : Nat → Fc} (ht : ∀ f, Fc.ok P ρ f (tab f)) (n : Nat) : CHok P ρ (evH T Fs tab n) :=
  callF_ok (ylR_ok fun N c => (ccOf_ok hm hρ hT hFs c).weaken fun r _ h => by cases h) ht n
theorem evH_true (hm : P.follows .mixedOrders = true) (hρ : ∀ i, (ρ i).oneCell = true) {T : Nat → Option Ty} {Fs : FsT} (hT : TTok P T) (hFs : FTok P ρ Fs) {tab : Nat → Fc} (ht : ∀ f, Fc.ok P ρ f (tab f)) {n f : Nat} {la : List AV} {args : Array Value} {w : World} (hf : Fs f ≠ none) (hf2 : f ≠ YL) (e : evH T Fs tab n f la hp0 isT = true)
    (hv : ∀ g, VRs ρ g la args.toList) : Calls P f args w fun e w' => e = .returned (.bool true) ∧ w'.os = w.os ∧ w'.tape = w.tape ∧ w'.output = w.output ∧ w.heap.size ≤ w'.heap.size ∧ ∀ b, b < w.heap.size → w'.heap[b]? = w.heap[b]? := by
  have hne : P.funcs[f]? ≠ none := by
    cases hfn : Fs f with
    | none => exact absurd hfn hf
    | some fn => rw [(hFs _ _ hfn).1]; simp
  let g0 : G := ⟨fun _ => none, fun _ => 0, fun _ => 0, fun _ => #[]⟩
  have hr : HR ρ g0 hp0 w := ⟨fun l b c h => (by cases h), fun l l' b c c' h => (by cases h), fun l b c h => (by cases h), fun l p h => (by cases h)⟩
  refine Calls.mono ((evH_ok hm hρ hT hFs ht n).1 f la args g0 hp0 w isT hne hf2 e (hv g0) hr) fun e' w' ⟨v, he, a, g', h', s, hva, hc⟩ => ?_
  rcases AV.boolK_true (v := a) hc with ⟨h1, _⟩ | ⟨_, h1⟩
  · subst h1
    have := hva.inv_bool
    subst this
    exact ⟨he, s.os, s.tape, s.output, s.size, fun b hb => (s.fr b hb fun l c h => by cases h).1⟩
  · cases h1
end
end Ev
end Go.Proofs.YticoibkgeejkoaaGreatDoor
namespace Go.Proofs.YticoibkgeejkoaaGreatDoor
namespace Ev
set_option linter.unusedVariables false
noncomputable section
variable {ρ : Nat → Value} {P : Program} {N : Nat} {R : Option Nat → Prop}
def lookN (n : Nat) (l : List (Nat × AV)) : AV := List.rec (motive := fun _ => AV) .undef (fun p _ ih => Bool.rec (motive := fun _ => AV) ih p.2 (Nat.beq n p.1)) l
def menv (l : List (Nat × AV)) : NT := NT.of fun p q => lookN (Nat.add (Nat.mul (nat_lit 16) p.num) q.num) l
def gt (t : Nat) (F : NT) : AV := (plOf t).get F
def mask (ts : List Nat) (F : NT) : NT := menv (ts.map fun t => (t, gt t F))
theorem plOf_of (p q : D) : plOf (16 * p.num + q.num) = ⟨p, q⟩ := by
  have h1 := D.num_lt p; have h2 := D.num_lt q
  have h := plOf_num (t := 16 * p.num + q.num) (by omega)
  generalize plOf (16 * p.num + q.num) = l at h
  obtain ⟨a, b⟩ := l
  have h3 := D.num_lt a; have h4 := D.num_lt b
  simp only at h
  rw [D.num_inj (a := a) (b := p) (by omega), D.num_inj (a := b) (b := q) (by omega)]
theorem mask_ok {g : G} {ts : List Nat} {F : NT} {tm : Array Value} (h : FR ρ g N F tm) : FR ρ g N (mask ts F) tm := by
  refine ⟨h.1, fun p q => ?_⟩
  rw [mask, menv, NT.get_of]
  show VR ρ g (lookN (16 * p.num + q.num) _) _
  induction ts with
  | nil => exact .undef _
  | cons t ts ih =>
    show VR ρ g (Bool.rec (motive := fun _ => AV) (lookN (16 * p.num + q.num) (ts.map fun t => (t, gt t F))) (gt t F) (Nat.beq (16 * p.num + q.num) t)) _
    cases hb : Nat.beq (16 * p.num + q.num) t with
    | false => exact ih
    | true =>
      have e := beq_true hb
      subst e
      have := h.2 p q
      show VR ρ g ((plOf (16 * p.num + q.num)).get F) _
      rw [plOf_of]
      exact this
structure Ou where
  nm : Option (List Nat)
  ex : List (Nat × List Nat)
  rt : Option (List Nat)
def nmO (o : Option (List Nat)) (k : NT → Hp → Bool) (F : NT) (h : Hp) : Bool := tall (Option.rec (motive := fun _ => Bool) false (fun l => k (mask l F) h) o)
def exO (l : List (Nat × List Nat)) (k : Nat → NT → Hp → Bool) (F : NT) (h : Hp) (i : Nat) : Bool := tall (List.rec (motive := fun _ => Bool) false (fun p _ ih => selT (Nat.beq i p.1) (k p.1 (mask p.2 F) h) ih) l)
def wrapO (o : Ou) (k : Ex → NT → Hp → Bool) (x : Ex) (F : NT) (h : Hp) : Bool := tall (Ex.rec (motive := fun _ => Bool) (nmO o.nm (k .normal) F h) (fun i => exO o.ex (fun i => k (.exit i)) F h i) (nmO o.rt (k .ret) F h) x)
theorem wrapO_true {o : Ou} {k : Ex → NT → Hp → Bool} {x : Ex} {F : NT} {h : Hp} (e : wrapO o k x F h = true) : ∃ ts, k x (mask ts F) h = true := by
  have nm : ∀ {o : Option (List Nat)} {k : NT → Hp → Bool}, nmO o k F h = true → ∃ ts, k (mask ts F) h = true := fun {o k} e => by
    cases o with
    | none => cases e
    | some l => exact ⟨l, e⟩
  cases x with
  | normal => exact nm (k := k .normal) e
  | ret => exact nm (k := k .ret) e
  | exit i =>
    have e : exO o.ex (fun i => k (.exit i)) F h i = true := e
    generalize o.ex = l at e
    induction l with
    | nil => cases e
    | cons p l ih =>
      rcases sel_true (show sel (Nat.beq i p.1) (k (.exit p.1) (mask p.2 F) h) (exO l (fun i => k (.exit i)) F h i) = true from e) with ⟨e1, e2⟩ | ⟨_, e2⟩
      · have e1 := beq_true e1
        clear e
        subst e1
        exact ⟨_, e2⟩
      · exact ih e2
theorem CQ.wrap {n0 : Nat} {r : Option Nat} {g : G} {h : Hp} {w : World} {o : Ou} {k : Ex → NT → Hp → Bool} {e : Exit} {a : Act} {w' : World} (q : CQ P ρ N n0 r g h w (wrapO o k) e a w') : CQ P ρ N n0 r g h w k e a w' := by
  obtain ⟨x, F', g', h', e1, s, f, d, hk⟩ := q
  obtain ⟨ts, hk⟩ := wrapO_true hk
  exact ⟨x, mask ts F', g', h', e1, s, mask_ok f, d, hk⟩
theorem cut_ok {c : Code} {cc x : Cc} (hc : Cc.ok R P ρ N c cc) (ins : List Nat) (o : Ou) (he : (fun ch F h k => cc.run ch (mask ins F) h (wrapO o k)) = x.run) : Cc.ok R P ρ N c x := fun ch F h k g a w r n0 hR hch hn0 e hF hd hr => by
  rw [← he] at e
  exact wpIn_mono (hc ch (mask ins F) h (wrapO o k) g a w r n0 hR hch hn0 e (mask_ok hF) hd hr) fun _ _ _ q => q.wrap
def loopX (x : Cc) (o : Ou) (ch : CH) (k : Ex → NT → Hp → Bool) : Ex → NT → Hp → Bool := loopK (fun F h => x.run ch F h k) (wrapO o k)
theorem loopX_ok {c : Code} {cc : Cc} (hx : Cc.ok R P ρ N c cc) {X : Nat → Cc} {ins : List Nat} {o : Ou} (h0 : ∀ ch F h k, (X 0).run ch F h k = false)
    (hs : ∀ n, (fun ch F h k => cc.run ch (mask ins F) h (loopX (X n) o ch k)) = (X (n + 1)).run) {ch : CH} {k : Ex → NT → Hp → Bool} {g0 : G} {h0' : Hp} {w0 : World} {r : Option Nat} {n0 : Nat} (hR : R r) (hch : CHok P ρ ch) (hn0 : n0 ≤ w0.heap.size) (b : Frame) (kk : List Item) (cs : List Frame) (hro : b.roundOf = (FK r).round) :
    ∀ (n : Nat) (F : NT) (h : Hp) (g : G) (a : Act) (w : World), (X n).run ch F h k = true → Step ρ g0 h0' w0 g h w → FR ρ g N F a.tmps → (Mks P n0 g h w a.defers ∧ (r ≠ none → a.defers = [])) →
      ∃ e a' w', CQ P ρ N n0 r g0 h0' w0 k e a' w' ∧ ArrivesIn (Machine.fenced P (FK r)) P (lone (b.atR a (.code c :: .inLoop c :: kk)) cs w) b kk cs e a' w'
  | 0, F, h, g, a, w, e, _, _, _ => by rw [h0] at e; cases e
  | n + 1, F, h, g, a, w, e, s, hF, hd => by
    rw [← hs n] at e
    obtain ⟨e1, a1, w1, hq, harr⟩ := hx ch (mask ins F) h (loopX (X n) o ch k) g a w r n0 hR hch (Nat.le_trans hn0 s.size) e (mask_ok hF) hd s.hr b (.inLoop c :: kk) cs hro trivial (FK.room r _)
    obtain ⟨z, F', g', h', rfl, s', f, d', hk⟩ := hq
    cases z with
    | normal =>
      obtain ⟨e2, a2, w2, hq2, harr2⟩ := loopX_ok hx h0 hs hR hch hn0 b kk cs hro n F' h' g' a1 w1 hk (s.trans s') f d'
      exact ⟨e2, a2, w2, hq2, .of_steps (StepsIn.trans harr (.one (FK.fenced r _) stepR_inLoop)) harr2⟩
    | exit i =>
      obtain ⟨ts, hk⟩ := wrapO_true (x := .exit i) (show wrapO o k (.exit i) F' h' = true from hk)
      exact ⟨_, a1, w1, ⟨.exit i, mask ts F', g', h', rfl, s.trans s', mask_ok f, d', hk⟩, .pass (x := .inLoop c) rfl (fun _ _ => .inl (fun h => Exit.noConfusion h)) harr⟩
    | ret =>
      obtain ⟨ts, hk⟩ := wrapO_true (x := .ret) (show wrapO o k .ret F' h' = true from hk)
      exact ⟨_, a1, w1, ⟨.ret, mask ts F', g', h', rfl, s.trans s', mask_ok f, d', hk⟩, .pass (x := .inLoop c) rfl (fun _ _ => .inl (fun h => Exit.noConfusion h)) harr⟩
theorem loop_ok {c : Code} {cc : Cc} (hx : Cc.ok R P ρ N c cc) (X : Nat → Cc) (ins : List Nat) (o : Ou) (h0 : ∀ ch F h k, (X 0).run ch F h k = false)
    (hs : ∀ n, (fun ch F h k => cc.run ch (mask ins F) h (loopX (X n) o ch k)) = (X (n + 1)).run) (n : Nat) : Cc.ok R P ρ N (.loop c) (X n) := fun ch F h k g a w r n0 hR hch hn0 e hF hd hr b kk cs hro _ _ => by
  obtain ⟨e1, a1, w1, hq, harr⟩ := loopX_ok hx h0 hs (g0 := g) (h0' := h) (w0 := w) (k := k) hR hch hn0 b kk cs hro n F h g a w e (Step.refl hr) hF hd
  exact ⟨e1, a1, w1, hq, .of_steps (.one (FK.fenced r _) stepR_loop) harr⟩
def child (b : Bool) : Code → Code
  | .seq x y => match b with | false => x | true => y
  | .cond _ x y => match b with | false => x | true => y
  | .block _ x => x
  | .loop x => x
  | c => c
def at_ (c : Code) : List Bool → Code
  | [] => c
  | b :: p => child b (at_ c p)
def pnF : Nat → Nat → List Bool
  | 0, _ => []
  | f + 1, n => match Nat.ble n 1 with
    | true => []
    | false => Nat.beq (n % 2) 1 :: pnF f (n / 2)
def pn (n : Nat) : List Bool := pnF n n
theorem pnF_eq : ∀ (f f' n : Nat), n ≤ f → n ≤ f' → pnF f n = pnF f' n
  | 0, 0, _, _, _ => rfl
  | 0, f' + 1, n, h, _ => by
    have : n = 0 := by omega
    subst this
    rfl
  | f + 1, 0, n, _, h => by
    have : n = 0 := by omega
    subst this
    rfl
  | f + 1, f' + 1, n, h, h' => by
    unfold pnF
    cases hb : Nat.ble n 1 with
    | true => rfl
    | false =>
      have : ¬ n ≤ 1 := fun e => by rw [Nat.ble_eq_true_of_le e] at hb; cases hb
      simp only
      rw [pnF_eq f f' (n / 2) (by omega) (by omega)]
theorem pn_two {p : Nat} (h : 1 ≤ p) : pn (Nat.mul 2 p) = false :: pn p := by
  show pnF (2 * p) (2 * p) = false :: pnF p p
  obtain ⟨f, hf⟩ : ∃ f, 2 * p = f + 1 := ⟨2 * p - 1, by omega⟩
  rw [hf]
  conv => lhs; unfold pnF
  have hb : Nat.ble (f + 1) 1 = false := by
    cases h' : Nat.ble (f + 1) 1 with
    | false => rfl
    | true => have := ble_true h'; omega
  have he : Nat.beq ((f + 1) % 2) 1 = false := by
    cases h' : Nat.beq ((f + 1) % 2) 1 with
    | false => rfl
    | true => have := beq_true h'; omega
  rw [hb, he]
  show false :: pnF f ((f + 1) / 2) = _
  rw [show (f + 1) / 2 = p from by omega, pnF_eq f p p (by omega) (Nat.le_refl _)]
theorem pn_one {p : Nat} (h : 1 ≤ p) : pn (Nat.add (Nat.mul 2 p) 1) = true :: pn p := by
  show pnF (2 * p + 1) (2 * p + 1) = true :: pnF p p
  conv => lhs; unfold pnF
  have hb : Nat.ble (2 * p + 1) 1 = false := by
    cases h' : Nat.ble (2 * p + 1) 1 with
    | false => rfl
    | true => have := ble_true h'; omega
  have he : Nat.beq ((2 * p + 1) % 2) 1 = true := by
    have : (2 * p + 1) % 2 = 1 := by omega
    rw [this]
    rfl
  rw [hb, he]
  show true :: pnF (2 * p) ((2 * p + 1) / 2) = _
  rw [show (2 * p + 1) / 2 = p from by omega, pnF_eq (2 * p) p p (by omega) (Nat.le_refl _)]
def atN (c : Code) (p : Nat) : Code := at_ c (pn p)
theorem atN_two {c : Code} {p : Nat} (h : 1 ≤ p) : atN c (Nat.mul 2 p) = child false (atN c p) := by unfold atN; rw [pn_two h]; rfl
theorem atN_one {c : Code} {p : Nat} (h : 1 ≤ p) : atN c (Nat.add (Nat.mul 2 p) 1) = child true (atN c p) := by unfold atN; rw [pn_one h]; rfl
def findH (p : Nat) : List (Nat × Cc) → Option Cc
  | [] => none
  | x :: l => match Nat.beq p x.1 with | true => some x.2 | false => findH p l
def HkOk (R : Option Nat → Prop) (P : Program) (ρ : Nat → Value) (N : Nat) (c0 : Code) : List (Nat × Cc) → Prop
  | [] => True
  | x :: l => Cc.ok R P ρ N (atN c0 x.1) x.2 ∧ HkOk R P ρ N c0 l
theorem findH_ok {c0 : Code} {p : Nat} {x : Cc} : ∀ {l : List (Nat × Cc)}, HkOk R P ρ N c0 l → findH p l = some x → Cc.ok R P ρ N (atN c0 p) x
  | [], _, e => by cases e
  | y :: l, ⟨h1, h2⟩, e => by
    unfold findH at e
    split at e
    · rename_i hp
      cases e
      rw [beq_true hp]
      exact h1
    · exact findH_ok h2 e
def ccHk (T : Nat → Option Ty) (Fs : FsT) (N : Nat) (rr : Bool) (hk : List (Nat × Cc)) : Nat → Code → Cc
  | p, .seq x y => match findH p hk with
    | some z => z
    | none => ccSeq (ccHk T Fs N rr hk (Nat.mul 2 p) x) (ccHk T Fs N rr hk (Nat.add (Nat.mul 2 p) 1) y)
  | p, .cond o x y => match findH p hk with
    | some z => z
    | none => ccCond o (ccHk T Fs N rr hk (Nat.mul 2 p) x) (ccHk T Fs N rr hk (Nat.add (Nat.mul 2 p) 1) y)
  | p, .block id x => match findH p hk with
    | some z => z
    | none => ccBlock id (ccHk T Fs N rr hk (Nat.mul 2 p) x)
  | p, c => match findH p hk with
    | some z => z
    | none => ccOf T Fs N rr c
theorem ccHk_ok (hm : P.follows .mixedOrders = true) (hρ : ∀ i, (ρ i).oneCell = true) {T : Nat → Option Ty} {Fs : FsT} (hT : TTok P T) (hFs : FTok P ρ Fs) {rr : Bool} {c0 : Code} {hk : List (Nat × Cc)} (h : HkOk (RR rr) P ρ N c0 hk) (c : Code) (p : Nat) (h1 : 1 ≤ p) (hp : atN c0 p = c) :
    Cc.ok (RR rr) P ρ N c (ccHk T Fs N rr hk p c) := by
  have fnd : ∀ {z : Cc}, findH p hk = some z → Cc.ok (RR rr) P ρ N c z := fun {z} hz => by
    have := findH_ok h hz
    rwa [hp] at this
  have h2 : 1 ≤ Nat.mul 2 p := by show 1 ≤ 2 * p; omega
  have h3 : 1 ≤ Nat.add (Nat.mul 2 p) 1 := by show 1 ≤ 2 * p + 1; omega
  induction c generalizing p with
  | seq x y hx hy =>
    have e2 : atN c0 (Nat.mul 2 p) = x := by rw [atN_two h1, hp]; rfl
    have e3 : atN c0 (Nat.add (Nat.mul 2 p) 1) = y := by rw [atN_one h1, hp]; rfl
    unfold ccHk
    split
    · exact fnd ‹_›
    · exact ccSeq_ok (hx _ h2 e2 (fun {z} hz => by have := findH_ok h hz; rwa [e2] at this) (by show 1 ≤ 2 * (2 * p); omega) (by show 1 ≤ 2 * (2 * p) + 1; omega)) (hy _ h3 e3 (fun {z} hz => by have := findH_ok h hz; rwa [e3] at this) (by show 1 ≤ 2 * (2 * p + 1); omega) (by show 1 ≤ 2 * (2 * p + 1) + 1; omega))
  | cond o x y hx hy =>
    have e2 : atN c0 (Nat.mul 2 p) = x := by rw [atN_two h1, hp]; rfl
    have e3 : atN c0 (Nat.add (Nat.mul 2 p) 1) = y := by rw [atN_one h1, hp]; rfl
    unfold ccHk
    split
    · exact fnd ‹_›
    · exact ccCond_ok (hx _ h2 e2 (fun {z} hz => by have := findH_ok h hz; rwa [e2] at this) (by show 1 ≤ 2 * (2 * p); omega) (by show 1 ≤ 2 * (2 * p) + 1; omega)) (hy _ h3 e3 (fun {z} hz => by have := findH_ok h hz; rwa [e3] at this) (by show 1 ≤ 2 * (2 * p + 1); omega) (by show 1 ≤ 2 * (2 * p + 1) + 1; omega))
  | block id x hx =>
    have e2 : atN c0 (Nat.mul 2 p) = x := by rw [atN_two h1, hp]; rfl
    unfold ccHk
    split
    · exact fnd ‹_›
    · exact ccBlock_ok (hx _ h2 e2 (fun {z} hz => by have := findH_ok h hz; rwa [e2] at this) (by show 1 ≤ 2 * (2 * p); omega) (by show 1 ≤ 2 * (2 * p) + 1; omega))
  | _ =>
    unfold ccHk
    split
    · exact fnd ‹_›
    · exact ccOf_ok hm hρ hT hFs _
def findF (f : Nat) (tab : List (Nat × Fc)) : Option Fc := List.rec (motive := fun _ => Option Fc) none (fun p _ ih => Bool.rec (motive := fun _ => Option Fc) ih (some p.2) (Nat.beq f p.1)) tab
def feOf (P : Program) (m : Nat) (tab : List (Nat × Fc)) : FsT := ⟨fun f => match P.funcs[f]? with
  | none => none
  | some fn => some ⟨fn, findF f tab⟩, m⟩
def DynOk (P : Program) (m : Nat) : Prop := ∀ g, bitD m g = true → (∀ (args : Array Value) (w : World), (callFunc g args).run P w = .ok (.enter g args) w) ∧ P.funcs[g]? ≠ none ∧ g ≠ YL
def dynG (P : Program) (g : Nat) : Bool := match P.funcs[g]? with
  | none => false
  | some fn => !(fn.name == "runtime.NumGoroutine") && fn.body.isSome && !(Nat.beq g YL)
def dynB (P : Program) (m : Nat) : Nat → Bool
  | 0 => true
  | n + 1 => (!(bitD m n) || dynG P n) && dynB P m n
theorem dynB_true {m : Nat} : ∀ {n : Nat}, dynB P m n = true → ∀ g, g < n → bitD m g = true → dynG P g = true
  | n + 1, h, g, hg, hb => by
    unfold dynB at h
    rw [Bool.and_eq_true] at h
    by_cases e : g = n
    · subst e
      have := h.1
      rw [hb] at this
      simpa using this
    · exact dynB_true h.2 g (by omega) hb
theorem dyn_ok {m : Nat} (n : Nat) (hm : m < 2 ^ n) (h : dynB P m n = true) : DynOk P m := fun g hb => by
  have hg : g < n := by
    rcases Nat.lt_or_ge g n with h | h
    · exact h
    · have h1 : 2 ^ n ≤ 2 ^ g := Nat.pow_le_pow_right (by omega) h
      have h2 : m / 2 ^ g = 0 := Nat.div_eq_of_lt (by omega)
      have hb : Nat.beq (m / 2 ^ g % 2) 1 = true := hb
      rw [h2] at hb
      cases hb
  have := dynB_true h g hg hb
  unfold dynG at this
  split at this
  · cases this
  · rename_i fn hfn
    simp only [Bool.and_eq_true, Bool.not_eq_true'] at this
    obtain ⟨⟨q2, q3⟩, q4⟩ := this
    exact ⟨fun args w => run_callFunc hfn q2 (by cases hbd : fn.body with | none => rw [hbd] at q3; cases q3 | some _ => rfl), by rw [hfn]; simp, beq_false q4⟩
def TabOk (P : Program) (ρ : Nat → Value) : List (Nat × Fc) → Prop
  | [] => True
  | x :: l => Fc.ok P ρ x.1 x.2 ∧ TabOk P ρ l
theorem feOf_ok {m : Nat} {tab : List (Nat × Fc)} (hd : DynOk P m) (ht : TabOk P ρ tab) : FTok P ρ (feOf P m tab) := ⟨fun f fn h0 => by
  have h : (match P.funcs[f]? with | none => none | some fn => some (⟨fn, findF f tab⟩ : Fe)) = some fn := h0
  clear h0
  split at h
  · cases h
  · rename_i fn' hf
    cases h
    refine ⟨hf, fun fc hfc => ?_⟩
    replace hfc : findF f tab = some fc := hfc
    clear hf
    induction tab with
    | nil => cases hfc
    | cons x l ih =>
      have e : Bool.rec (motive := fun _ => Option Fc) (findF f l) (some x.2) (Nat.beq f x.1) = some fc := hfc
      cases hb : Nat.beq f x.1 with
      | false => rw [hb] at e; exact ih ht.2 e
      | true =>
        rw [hb] at e
        cases e
        rw [beq_true hb]
        exact ht.1, hd⟩
def un (f : AV → List AV → Bool) (la : List AV) : Bool := tall (List.rec (motive := fun _ => Bool) false (fun a l _ => f a l) la)
def un0 (b : Bool) (la : List AV) : Bool := tall (List.rec (motive := fun _ => Bool) b (fun _ _ _ => false) la)
theorem un_true {f : AV → List AV → Bool} {la : List AV} (h : un f la = true) : ∃ a l, la = a :: l ∧ f a l = true := by
  cases la with
  | nil => cases h
  | cons a l => exact ⟨a, l, rfl, h⟩
theorem un0_true {b : Bool} {la : List AV} (h : un0 b la = true) : la = [] ∧ b = true := by
  cases la with
  | nil => exact ⟨rfl, h⟩
  | cons a l => cases h
abbrev lfCc (T : Nat → Option Ty) (Fs : FsT) (N : Nat) (rr : Bool) (c : Code) : Cc := ccOf T Fs N rr c
def bd (fn : Func) : Code := match fn.body with
  | some c => c
  | none => .skip
abbrev QQ (ρ : Nat → Value) : Prop := ∀ i, (ρ i).oneCell = true
abbrev K0 : Type := Hp → Bool
abbrev K1 : Type := AV → Hp → Bool
abbrev K2 : Type := AV → AV → Hp → Bool
abbrev K3 : Type := AV → AV → AV → Hp → Bool
abbrev K4 : Type := AV → AV → AV → AV → Hp → Bool
abbrev K5 : Type := AV → AV → AV → AV → AV → Hp → Bool
abbrev K6 : Type := AV → AV → AV → AV → AV → AV → Hp → Bool
abbrev K7 : Type := AV → AV → AV → AV → AV → AV → AV → Hp → Bool
abbrev K8 : Type := AV → AV → AV → AV → AV → AV → AV → AV → Hp → Bool
abbrev K9 : Type := AV → AV → AV → AV → AV → AV → AV → AV → AV → Hp → Bool
abbrev m0 (k : NT → Hp → Bool) : K0 := fun h => k (menv []) h
abbrev m1 (a0 : Nat) (k : NT → Hp → Bool) : K1 := fun x0 h => k (menv [(a0, x0)]) h
abbrev m2 (a0 a1 : Nat) (k : NT → Hp → Bool) : K2 := fun x0 x1 h => k (menv [(a0, x0), (a1, x1)]) h
abbrev m3 (a0 a1 a2 : Nat) (k : NT → Hp → Bool) : K3 := fun x0 x1 x2 h => k (menv [(a0, x0), (a1, x1), (a2, x2)]) h
abbrev m4 (a0 a1 a2 a3 : Nat) (k : NT → Hp → Bool) : K4 := fun x0 x1 x2 x3 h => k (menv [(a0, x0), (a1, x1), (a2, x2), (a3, x3)]) h
abbrev m5 (a0 a1 a2 a3 a4 : Nat) (k : NT → Hp → Bool) : K5 := fun x0 x1 x2 x3 x4 h => k (menv [(a0, x0), (a1, x1), (a2, x2), (a3, x3), (a4, x4)]) h
abbrev m6 (a0 a1 a2 a3 a4 a5 : Nat) (k : NT → Hp → Bool) : K6 := fun x0 x1 x2 x3 x4 x5 h => k (menv [(a0, x0), (a1, x1), (a2, x2), (a3, x3), (a4, x4), (a5, x5)]) h
abbrev m7 (a0 a1 a2 a3 a4 a5 a6 : Nat) (k : NT → Hp → Bool) : K7 := fun x0 x1 x2 x3 x4 x5 x6 h => k (menv [(a0, x0), (a1, x1), (a2, x2), (a3, x3), (a4, x4), (a5, x5), (a6, x6)]) h
abbrev m8 (a0 a1 a2 a3 a4 a5 a6 a7 : Nat) (k : NT → Hp → Bool) : K8 := fun x0 x1 x2 x3 x4 x5 x6 x7 h => k (menv [(a0, x0), (a1, x1), (a2, x2), (a3, x3), (a4, x4), (a5, x5), (a6, x6), (a7, x7)]) h
abbrev m9 (a0 a1 a2 a3 a4 a5 a6 a7 a8 : Nat) (k : NT → Hp → Bool) : K9 := fun x0 x1 x2 x3 x4 x5 x6 x7 x8 h => k (menv [(a0, x0), (a1, x1), (a2, x2), (a3, x3), (a4, x4), (a5, x5), (a6, x6), (a7, x7), (a8, x8)]) h
abbrev fcA0 (s : CH → Hp → (AV → Hp → Bool) → Bool) : Fc := ⟨fun ch l h k => un0 (s ch h k) l⟩
theorem us0 {G : CH → List AV → Hp → (AV → Hp → Bool) → Bool} {s : CH → Hp → (AV → Hp → Bool) → Bool} (he : ∀ ch h k, s ch h k = G ch [] h k := by intros; kernel_rfl) (ch : CH) (l : List AV) (h : Hp) (k : AV → Hp → Bool) (e : (fcA0 s).run ch l h k = true) : G ch l h k = true := by obtain ⟨rfl, e⟩ := un0_true e; exact (he ch h k).symm.trans e
abbrev fcA1 (s : CH → AV → Hp → (AV → Hp → Bool) → Bool) : Fc := ⟨fun ch l h k => un (fun x0 l => un0 (s ch x0 h k) l) l⟩
theorem us1 {G : CH → List AV → Hp → (AV → Hp → Bool) → Bool} {s : CH → AV → Hp → (AV → Hp → Bool) → Bool} (he : ∀ ch x0 h k, s ch x0 h k = G ch [x0] h k := by intros; kernel_rfl) (ch : CH) (l : List AV) (h : Hp) (k : AV → Hp → Bool) (e : (fcA1 s).run ch l h k = true) : G ch l h k = true := by obtain ⟨x0, l, rfl, e⟩ := un_true e; obtain ⟨rfl, e⟩ := un0_true e; exact (he ch _ h k).symm.trans e
abbrev fcA2 (s : CH → AV → AV → Hp → (AV → Hp → Bool) → Bool) : Fc := ⟨fun ch l h k => un (fun x0 l => un (fun x1 l => un0 (s ch x0 x1 h k) l) l) l⟩
theorem us2 {G : CH → List AV → Hp → (AV → Hp → Bool) → Bool} {s : CH → AV → AV → Hp → (AV → Hp → Bool) → Bool} (he : ∀ ch x0 x1 h k, s ch x0 x1 h k = G ch [x0, x1] h k := by intros; kernel_rfl) (ch : CH) (l : List AV) (h : Hp) (k : AV → Hp → Bool) (e : (fcA2 s).run ch l h k = true) : G ch l h k = true := by obtain ⟨x0, l, rfl, e⟩ := un_true e; obtain ⟨x1, l, rfl, e⟩ := un_true e; obtain ⟨rfl, e⟩ := un0_true e; exact (he ch _ _ h k).symm.trans e
abbrev fcA3 (s : CH → AV → AV → AV → Hp → (AV → Hp → Bool) → Bool) : Fc := ⟨fun ch l h k => un (fun x0 l => un (fun x1 l => un (fun x2 l => un0 (s ch x0 x1 x2 h k) l) l) l) l⟩
theorem us3 {G : CH → List AV → Hp → (AV → Hp → Bool) → Bool} {s : CH → AV → AV → AV → Hp → (AV → Hp → Bool) → Bool} (he : ∀ ch x0 x1 x2 h k, s ch x0 x1 x2 h k = G ch [x0, x1, x2] h k := by intros; kernel_rfl) (ch : CH) (l : List AV) (h : Hp) (k : AV → Hp → Bool) (e : (fcA3 s).run ch l h k = true) : G ch l h k = true := by obtain ⟨x0, l, rfl, e⟩ := un_true e; obtain ⟨x1, l, rfl, e⟩ := un_true e; obtain ⟨x2, l, rfl, e⟩ := un_true e; obtain ⟨rfl, e⟩ := un0_true e; exact (he ch _ _ _ h k).symm.trans e
abbrev fcA4 (s : CH → AV → AV → AV → AV → Hp → (AV → Hp → Bool) → Bool) : Fc := ⟨fun ch l h k => un (fun x0 l => un (fun x1 l => un (fun x2 l => un (fun x3 l => un0 (s ch x0 x1 x2 x3 h k) l) l) l) l) l⟩
theorem us4 {G : CH → List AV → Hp → (AV → Hp → Bool) → Bool} {s : CH → AV → AV → AV → AV → Hp → (AV → Hp → Bool) → Bool} (he : ∀ ch x0 x1 x2 x3 h k, s ch x0 x1 x2 x3 h k = G ch [x0, x1, x2, x3] h k := by intros; kernel_rfl) (ch : CH) (l : List AV) (h : Hp) (k : AV → Hp → Bool) (e : (fcA4 s).run ch l h k = true) : G ch l h k = true := by obtain ⟨x0, l, rfl, e⟩ := un_true e; obtain ⟨x1, l, rfl, e⟩ := un_true e; obtain ⟨x2, l, rfl, e⟩ := un_true e; obtain ⟨x3, l, rfl, e⟩ := un_true e; obtain ⟨rfl, e⟩ := un0_true e; exact (he ch _ _ _ _ h k).symm.trans e
abbrev fcA5 (s : CH → AV → AV → AV → AV → AV → Hp → (AV → Hp → Bool) → Bool) : Fc := ⟨fun ch l h k => un (fun x0 l => un (fun x1 l => un (fun x2 l => un (fun x3 l => un (fun x4 l => un0 (s ch x0 x1 x2 x3 x4 h k) l) l) l) l) l) l⟩
theorem us5 {G : CH → List AV → Hp → (AV → Hp → Bool) → Bool} {s : CH → AV → AV → AV → AV → AV → Hp → (AV → Hp → Bool) → Bool} (he : ∀ ch x0 x1 x2 x3 x4 h k, s ch x0 x1 x2 x3 x4 h k = G ch [x0, x1, x2, x3, x4] h k := by intros; kernel_rfl) (ch : CH) (l : List AV) (h : Hp) (k : AV → Hp → Bool) (e : (fcA5 s).run ch l h k = true) : G ch l h k = true := by obtain ⟨x0, l, rfl, e⟩ := un_true e; obtain ⟨x1, l, rfl, e⟩ := un_true e; obtain ⟨x2, l, rfl, e⟩ := un_true e; obtain ⟨x3, l, rfl, e⟩ := un_true e; obtain ⟨x4, l, rfl, e⟩ := un_true e; obtain ⟨rfl, e⟩ := un0_true e; exact (he ch _ _ _ _ _ h k).symm.trans e
abbrev fcA6 (s : CH → AV → AV → AV → AV → AV → AV → Hp → (AV → Hp → Bool) → Bool) : Fc := ⟨fun ch l h k => un (fun x0 l => un (fun x1 l => un (fun x2 l => un (fun x3 l => un (fun x4 l => un (fun x5 l => un0 (s ch x0 x1 x2 x3 x4 x5 h k) l) l) l) l) l) l) l⟩
theorem us6 {G : CH → List AV → Hp → (AV → Hp → Bool) → Bool} {s : CH → AV → AV → AV → AV → AV → AV → Hp → (AV → Hp → Bool) → Bool} (he : ∀ ch x0 x1 x2 x3 x4 x5 h k, s ch x0 x1 x2 x3 x4 x5 h k = G ch [x0, x1, x2, x3, x4, x5] h k := by intros; kernel_rfl) (ch : CH) (l : List AV) (h : Hp) (k : AV → Hp → Bool) (e : (fcA6 s).run ch l h k = true) : G ch l h k = true := by obtain ⟨x0, l, rfl, e⟩ := un_true e; obtain ⟨x1, l, rfl, e⟩ := un_true e; obtain ⟨x2, l, rfl, e⟩ := un_true e; obtain ⟨x3, l, rfl, e⟩ := un_true e; obtain ⟨x4, l, rfl, e⟩ := un_true e; obtain ⟨x5, l, rfl, e⟩ := un_true e; obtain ⟨rfl, e⟩ := un0_true e; exact (he ch _ _ _ _ _ _ h k).symm.trans e
abbrev fcA7 (s : CH → AV → AV → AV → AV → AV → AV → AV → Hp → (AV → Hp → Bool) → Bool) : Fc := ⟨fun ch l h k => un (fun x0 l => un (fun x1 l => un (fun x2 l => un (fun x3 l => un (fun x4 l => un (fun x5 l => un (fun x6 l => un0 (s ch x0 x1 x2 x3 x4 x5 x6 h k) l) l) l) l) l) l) l) l⟩
theorem us7 {G : CH → List AV → Hp → (AV → Hp → Bool) → Bool} {s : CH → AV → AV → AV → AV → AV → AV → AV → Hp → (AV → Hp → Bool) → Bool} (he : ∀ ch x0 x1 x2 x3 x4 x5 x6 h k, s ch x0 x1 x2 x3 x4 x5 x6 h k = G ch [x0, x1, x2, x3, x4, x5, x6] h k := by intros; kernel_rfl) (ch : CH) (l : List AV) (h : Hp) (k : AV → Hp → Bool) (e : (fcA7 s).run ch l h k = true) : G ch l h k = true := by obtain ⟨x0, l, rfl, e⟩ := un_true e; obtain ⟨x1, l, rfl, e⟩ := un_true e; obtain ⟨x2, l, rfl, e⟩ := un_true e; obtain ⟨x3, l, rfl, e⟩ := un_true e; obtain ⟨x4, l, rfl, e⟩ := un_true e; obtain ⟨x5, l, rfl, e⟩ := un_true e; obtain ⟨x6, l, rfl, e⟩ := un_true e; obtain ⟨rfl, e⟩ := un0_true e; exact (he ch _ _ _ _ _ _ _ h k).symm.trans e
abbrev fcA8 (s : CH → AV → AV → AV → AV → AV → AV → AV → AV → Hp → (AV → Hp → Bool) → Bool) : Fc := ⟨fun ch l h k => un (fun x0 l => un (fun x1 l => un (fun x2 l => un (fun x3 l => un (fun x4 l => un (fun x5 l => un (fun x6 l => un (fun x7 l => un0 (s ch x0 x1 x2 x3 x4 x5 x6 x7 h k) l) l) l) l) l) l) l) l) l⟩
theorem us8 {G : CH → List AV → Hp → (AV → Hp → Bool) → Bool} {s : CH → AV → AV → AV → AV → AV → AV → AV → AV → Hp → (AV → Hp → Bool) → Bool} (he : ∀ ch x0 x1 x2 x3 x4 x5 x6 x7 h k, s ch x0 x1 x2 x3 x4 x5 x6 x7 h k = G ch [x0, x1, x2, x3, x4, x5, x6, x7] h k := by intros; kernel_rfl) (ch : CH) (l : List AV) (h : Hp) (k : AV → Hp → Bool) (e : (fcA8 s).run ch l h k = true) : G ch l h k = true := by obtain ⟨x0, l, rfl, e⟩ := un_true e; obtain ⟨x1, l, rfl, e⟩ := un_true e; obtain ⟨x2, l, rfl, e⟩ := un_true e; obtain ⟨x3, l, rfl, e⟩ := un_true e; obtain ⟨x4, l, rfl, e⟩ := un_true e; obtain ⟨x5, l, rfl, e⟩ := un_true e; obtain ⟨x6, l, rfl, e⟩ := un_true e; obtain ⟨x7, l, rfl, e⟩ := un_true e; obtain ⟨rfl, e⟩ := un0_true e; exact (he ch _ _ _ _ _ _ _ _ h k).symm.trans e
abbrev fcA9 (s : CH → AV → AV → AV → AV → AV → AV → AV → AV → AV → Hp → (AV → Hp → Bool) → Bool) : Fc := ⟨fun ch l h k => un (fun x0 l => un (fun x1 l => un (fun x2 l => un (fun x3 l => un (fun x4 l => un (fun x5 l => un (fun x6 l => un (fun x7 l => un (fun x8 l => un0 (s ch x0 x1 x2 x3 x4 x5 x6 x7 x8 h k) l) l) l) l) l) l) l) l) l) l⟩
theorem us9 {G : CH → List AV → Hp → (AV → Hp → Bool) → Bool} {s : CH → AV → AV → AV → AV → AV → AV → AV → AV → AV → Hp → (AV → Hp → Bool) → Bool} (he : ∀ ch x0 x1 x2 x3 x4 x5 x6 x7 x8 h k, s ch x0 x1 x2 x3 x4 x5 x6 x7 x8 h k = G ch [x0, x1, x2, x3, x4, x5, x6, x7, x8] h k := by intros; kernel_rfl) (ch : CH) (l : List AV) (h : Hp) (k : AV → Hp → Bool) (e : (fcA9 s).run ch l h k = true) : G ch l h k = true := by obtain ⟨x0, l, rfl, e⟩ := un_true e; obtain ⟨x1, l, rfl, e⟩ := un_true e; obtain ⟨x2, l, rfl, e⟩ := un_true e; obtain ⟨x3, l, rfl, e⟩ := un_true e; obtain ⟨x4, l, rfl, e⟩ := un_true e; obtain ⟨x5, l, rfl, e⟩ := un_true e; obtain ⟨x6, l, rfl, e⟩ := un_true e; obtain ⟨x7, l, rfl, e⟩ := un_true e; obtain ⟨x8, l, rfl, e⟩ := un_true e; obtain ⟨rfl, e⟩ := un0_true e; exact (he ch _ _ _ _ _ _ _ _ _ h k).symm.trans e
end
end Ev
end Go.Proofs.YticoibkgeejkoaaGreatDoor
