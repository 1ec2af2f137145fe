/- Append. · Append, all told. · Frames; operations in a region, one behind the other. · Code: one after the other, choices, blocks, loops. · Functions; calls, as deep as the fuel goes. · Operations made ready, the first group: moves, memory, fields, numbers, calls. · Operations made ready: len, append. · Operations made ready: equality, not, conversions, interfaces, functions, maps, rows and variables made, slicing, parts. · Operations made ready: structs, arrays and rows laid down. · Maps: entries looked up, laid in, struck off. · Operations made ready: maps, copies, parts of arrays, calls of values and of methods. · Operations made ready: iterators over maps. · Structs compared. -/
import Derived.Test.YticoibkgeejkoaaGreatDoorEB
import Derived.Lib.AppendZerosOnto
import Derived.RangeFuncLeaves
import Derived.OrdersIn
import Derived.Laws.Sem
import Derived.MapKept
import Derived.Laws.IdiomRangeMap
import Derived.Laws.StructEq
set_option linter.unusedVariables false
set_option linter.unusedSimpArgs false
namespace Go.Proofs.YticoibkgeejkoaaGreatDoor
namespace Ev
set_option linter.unusedVariables false
noncomputable section
variable {ρ : Nat → Value} {g : G} {h h' : Hp} {w : World} {P : Program}
def srcA (z : Nat) (x : AV) (h : Hp) (y : Nat → List (List AV) → Bool) : Bool :=
  x.sliceK (y (nat_lit 0) []) fun l o n _ => sel (Nat.beq n (nat_lit 0)) (y (nat_lit 0) [])
    ((h.get l).cellsK fun z' _ np t => both (Nat.beq z' z) (both (Nat.beq (Nat.mod o z) (nat_lit 0)) (both (Nat.ble (Nat.add (Nat.div o z) n) np) (y n (pcsL t n (Nat.div o z))))))
def appNew (z by_ n : Nat) (ps : List (List AV)) (h : Hp) (c : AV → Hp → Bool) : Bool :=
  both (Nat.ble (Nat.mul (Nat.mul (nat_lit 2) n) by_) (nat_lit 281474976710656)) (both (Nat.ble n (nat_lit 4611686018427387904))
    (putpK ps .e (nat_lit 0) fun t => h.new (.cells z true n t) fun h' => c (.slice h.nx (nat_lit 0) n (nat_lit 0)) h'))
def appIn (z n : Nat) (ps : List (List AV)) (l : L) (o q k : Nat) (u : Bool) (np : Nat) (t : CT) (h : Hp) (c : AV → Hp → Bool) : Bool :=
  both (Nat.beq (Nat.mod o z) (nat_lit 0)) (both (Nat.ble (Nat.add (Nat.add (Nat.div o z) q) n) np) (putpK ps t (Nat.add (Nat.div o z) q) fun t => h.set l (.cells z u np t) fun h => c (.slice l o (Nat.add q n) k) h))
def appOut (z by_ n : Nat) (ps : List (List AV)) (l : L) (o q : Nat) (np : Nat) (t : CT) (h : Hp) (c : AV → Hp → Bool) : Bool :=
  both (Nat.ble (Nat.mul (Nat.mul (nat_lit 2) (Nat.add q n)) by_) (nat_lit 281474976710656)) (both (Nat.ble (Nat.add q n) (nat_lit 4611686018427387904))
    (both (Nat.beq o (nat_lit 0)) (both (Nat.ble q np) (putpK ps t q fun t => h.new (.cells z true (Nat.add q n) t) fun h' => c (.slice h.nx (nat_lit 0) (Nat.add q n) (nat_lit 0)) h'))))
def appMore (z by_ n : Nat) (ps : List (List AV)) (l : L) (o q : Nat) (np : Nat) (t : CT) (h : Hp) (c : AV → Hp → Bool) : Bool :=
  appOut z by_ n ps l o q np t h fun a h => h.set l .none fun h => c a h
def app1 (z by_ n : Nat) (ps : List (List AV)) (x : AV) (h : Hp) (c : AV → Hp → Bool) : Bool :=
  x.sliceK (appNew z by_ n ps h c) fun l o q k =>
    sel (Nat.beq k (nat_lit 0))
      ((h.get l).cellsK fun z' u np t => both (Nat.beq z' z) (sel (both (Nat.ble (nat_lit 1) q) (Nat.ble (Nat.add (Nat.add (Nat.div o z) q) n) np)) (appIn z n ps l o q k u np t h c) (appMore z by_ n ps l o q np t h c)))
      (sel (Nat.ble (Nat.succ (Nat.add q n)) k)
        ((h.get l).cellsK fun z' u np t => both (Nat.beq z' z) (appIn z n ps l o q k u np t h c))
        (sel (Nat.beq q (nat_lit 0)) (appNew z by_ n ps h c) ((h.get l).cellsK fun z' u np t => both (Nat.beq z' z) (appOut z by_ n ps l o q np t h c))))
def app0 (z by_ : Nat) (x : AV) (h : Hp) (c : AV → Hp → Bool) (n : Nat) (ps : List (List AV)) : Bool := sel (Nat.beq n (nat_lit 0)) (x.sliceK (c x h) fun _ _ q k => sel (Nat.beq k (nat_lit 0)) (c x h) (both (Nat.ble (Nat.succ q) k) (c x h))) (app1 z by_ n ps x h c)
def aAppend (z by_ : Nat) (x y : AV) (h : Hp) (c : AV → Hp → Bool) : Bool := both (Nat.ble (nat_lit 1) z) (srcA z y h (app0 z by_ x h c))
theorem PCR.nil {z : Nat} : PCR ρ g z [] [] := ⟨by simp, fun v hv => absurd hv List.not_mem_nil, fun p x hp => by simp at hp⟩
theorem mod_div {o z : Nat} (h : o % z = 0) : o / z * z = o := by
  have := Nat.div_add_mod o z
  rw [Nat.mul_comm] at this
  omega
theorem srcA_ok {tx e' : TypeId} {z : Nat} {x : AV} {xv : Value} {y : Nat → List (List AV) → Bool} (hk : P.underlying tx = some (.slice e')) (hr : HR ρ g h w) (hx : VR ρ g x xv) (e : srcA z x h y = true) :
    ∃ n ps news, Src P z tx xv n news w ∧ PCR ρ g z ps news ∧ ps.length = n ∧ y n ps = true := by
  rcases AV.sliceK_true (v := x) e with ⟨rfl, e⟩ | ⟨l, o, n, k, rfl, e⟩
  · have := hx.inv_nils; subst this
    exact ⟨0, [], [], Src.ofNil w hk 0, PCR.nil, rfl, e⟩
  · have key : (∃ b c q, g.blk l = some (b, c) ∧ xv = .slice (some ⟨b, c + o, none⟩) n q) ∨ (n = 0 ∧ ∃ a q, xv = .slice (some a) 0 q) := by
      cases hx with
      | slice _ _ _ q b c hb => exact .inl ⟨b, c, q, hb, rfl⟩
      | slicu _ _ _ q b c hb => exact .inl ⟨b, c, q, hb, rfl⟩
      | slice0 _ _ a _ _ => exact .inr ⟨rfl, a, 0, rfl⟩
      | slicez _ _ a => exact .inr ⟨rfl, a, 0, rfl⟩
    rcases sel_true e with ⟨e1, e⟩ | ⟨e1, e⟩
    · have e1 := beq_true e1
      have e1' : n = 0 := e1
      subst e1'
      have : ∃ a q, xv = .slice (some a) 0 q := by
        rcases key with ⟨b, c, q, _, hv⟩ | ⟨_, a, q, hv⟩
        · exact ⟨_, q, hv⟩
        · exact ⟨a, q, hv⟩
      obtain ⟨a, q, rfl⟩ := this
      exact ⟨0, [], [], Src.ofSlice w hk a 0 q [] (by simp) (fun j u hj => by simp at hj) (fun u hu => absurd hu List.not_mem_nil), PCR.nil, rfl, e⟩
    · have e1 := beq_false e1
      rcases key with ⟨b, c, q, hb, rfl⟩ | ⟨h0, _⟩
      · obtain ⟨z', u, np, t, ho, e⟩ := AO.cellsK_true e
        obtain ⟨e2, e⟩ := both_true e
        have e2 := beq_true e2
        subst e2
        obtain ⟨e3, e⟩ := both_true e
        have e3 : o % z' = 0 := beq_true e3
        obtain ⟨e4, e⟩ := both_true e
        have e4 : o / z' + n ≤ np := ble_true e4
        obtain ⟨vs, v1, v2⟩ := hr.pieces hb ho e4
        refine ⟨n, _, vs, Src.ofSlice w hk _ n q vs (by rw [v1.1, pcsL_length]) (fun j v hj => ?_) (fun v hv => by rw [one_one']; exact v1.2.1 v hv), v1, pcsL_length _ _ _, e⟩
        have := v2 j v hj
        rw [mod_div e3] at this
        rw [add_plain]
        exact this
      · exact absurd h0 e1
structure Ap (P : Program) (t tx ty el : TypeId) (i : TypeInfo) (z : Value) (xv : Value) (n : Nat) (news : List Value) (w : World) : Prop where
  newsLen : news.length = n * i.size
  nix : n = 0 → ∀ (a : Option Addr) (q k : Nat), q ≤ k → (a = none → q = 0 ∧ k = 0) → (Builtin.append_ #[t, tx] ty #[.slice a q k, xv]).run P w = .ok (.slice a q k) w
  room : ∀ (b off q k : Nat), q + n ≤ k → (∀ j, j < news.length → (w.cell? ⟨b, off + q * i.size + j, none⟩).isSome = true) → (∀ j, j < news.length → w.frozen? ⟨b, off + q * i.size + j, none⟩ = false) →
    (Builtin.append_ #[t, tx] ty #[.slice (some ⟨b, off, none⟩) q k, xv]).run P w = .ok (.slice (some ⟨b, off, none⟩) (q + n) k) (w.setCells b (off + q * i.size) news)
  grow : n ≠ 0 → ∀ (a : Option Addr) (q k : Nat) (olds : List Value), (Builtin.firstCells i.size q (.slice a q k)).run P w.drew = .ok olds.toArray w.drew → k < q + n → ((q + n : Nat) : Int) ≤ 9223372036854775807 → Builtin.nextslicecap (q + n) k * i.bytes ≤ 281474976710656 → n * i.bytes ≤ 281474976710656 →
    (Builtin.append_ #[t, tx] ty #[.slice a q k, xv]).run P w = .ok (.slice (some ⟨w.heap.size, 0, none⟩) (q + n) (grownCap w (q + n) k el)) (w.drew.alloc (.cells ((olds ++ news).toArray ++ Builtin.zeroCells z.cells (grownCap w (q + n) k el - (q + n))) el))
theorem run_append_none {t tx ty : TypeId} {e : TypeId} {i : TypeInfo} (ht : P.underlying t = some (.slice e)) (hi : P.info? e = some i) {a : Option Addr} {q k : Nat} {xv : Value} (hqk : q ≤ k) (ha : a = none → q = 0 ∧ k = 0) {news : List Value} (hs : Src P i.size tx xv 0 news w) :
    (Builtin.append_ #[t, tx] ty #[.slice a q k, xv]).run P w = .ok (.slice a q k) w := by
  have h0 : news = [] := by
    have := hs.newsLen
    rw [Nat.zero_mul] at this
    exact List.eq_nil_of_length_eq_zero this
  subst h0
  have hc := hs.cells
  rcases hs.kind with ⟨e', hk⟩ | hk <;> cases a <;> simp [Builtin.append_, run_underlying ht, run_underlying hk, sizeOf, typeInfo, hi, hs.len, hqk, hc, storeCells]
theorem Ap.ofSrc {t tx ty el : TypeId} {i : TypeInfo} {z xv : Value} {n : Nat} {news : List Value} (ht : P.underlying t = some (.slice el)) (hi : P.info? el = some i) (hz : i.zero = some z) (hs : Src P i.size tx xv n news w) : Ap P t tx ty el i z xv n news w :=
  ⟨hs.newsLen, fun h0 a q k hqk ha => by subst h0; exact run_append_none ht hi hqk ha hs, fun b off q k hr hc hf => run_append_room_src w t tx ty el i ht hi b off q k xv n news hs hr hc hf, fun _ a q k olds ho hk h63 hf _ => run_append_grow_src w t tx ty el i z ht hi hz a q k olds ho xv n news hs hk h63 hf⟩
theorem Ap.ofInt {t tx ty el : TypeId} {i : TypeInfo} {z : Value} {n : Nat} {kq kn : IntKind} (ht : P.underlying t = some (.slice el)) (htn : P.underlying tx = some (.int kn)) (hi : P.info? el = some i) (hz : i.zero = some z) (hzl : z.cells.size = i.size) (hz1 : ∀ v ∈ z.cells.toList, v.oneCell = true) (hs1 : 1 ≤ i.size)
    (hn : n ≤ 4611686018427387904) (hb : n * i.bytes ≤ 281474976710656) : Ap P t tx ty el i z (.int kq (n : Int)) n (Builtin.zeroCells z.cells n).toList w := by
  have hsz : (Builtin.zeroCells z.cells n).size = n * i.size := by rw [size_zeroCells, hzl]
  have hone : ∀ v ∈ (Builtin.zeroCells z.cells n).toList, v.oneCell = true := fun v hv => by
    simp only [Builtin.zeroCells, Array.toList_map, List.mem_map] at hv
    obtain ⟨j, _, rfl⟩ := hv
    have hmod : j % z.cells.size < z.cells.size := Nat.mod_lt _ (by omega)
    rw [getElem!_pos z.cells (j % z.cells.size) hmod]
    exact hz1 _ (Array.mem_toList_iff.2 (Array.getElem_mem _))
  have hw : IntKind.i64.wrap (n : Int) = n := by rw [IntKind.wrap_i64]; omega
  have hw0 : IntKind.i64.wrap 0 = 0 := by decide
  have hneg : ¬ ((n : Int) < 0) := by omega
  have h48i : ¬ (281474976710656 < (n : Int) * (i.bytes : Int)) := by
    rw [← Int.natCast_mul]
    omega
  refine ⟨by rw [Array.length_toList, hsz], fun h0 a q k hqk ha => ?_, fun b off q k hroom hc hf => ?_, fun h0 a q k olds ho hk h63 hf h48 => ?_⟩
  · subst h0
    cases a with
    | none =>
      obtain ⟨rfl, rfl⟩ := ha rfl
      simp [Builtin.append_, run_underlying ht, run_underlying htn, sizeOf, typeInfo, hi, asInt, asIntOf, hw0]
    | some a => simp [Builtin.append_, run_underlying ht, run_underlying htn, sizeOf, typeInfo, hi, asInt, asIntOf, hw0, hqk, storeCells]
  · have hst := run_storeCells_cells (P := P) b (off + q * i.size) (Builtin.zeroCells z.cells n).toList 0 w (by simpa using hc) (by simpa using hf) (fun v hv => by rw [one_one']; exact hone v hv)
    simp only [Nat.add_zero] at hst
    by_cases h0 : n * i.size = 0
    · have hn0 : n = 0 := by
        rcases Nat.mul_eq_zero.1 h0 with h | h
        · exact h
        · omega
      subst hn0
      simp [Builtin.append_, run_underlying ht, run_underlying htn, sizeOf, typeInfo, hi, asInt, asIntOf, hw0, (show q ≤ k by omega), storeCells, Builtin.zeroCells, World.setCells]
    · simp [Builtin.append_, run_underlying ht, run_underlying htn, sizeOf, typeInfo, zeroValue, hi, hz, asInt, asIntOf, hw, hneg, h48i, hroom, h0, Addr.add_lit, hst]
  · have := Lib.run_append_grow_zeros w t tx ty el i z kq kn ht htn hi hz a q k olds ho n (by omega) (by omega) hk h63 h48 hf
    rw [this]
    congr 3
    apply Array.ext'
    simp
theorem app_room {t tx ty el : TypeId} {i : TypeInfo} {xv : Value} {l : L} {b c o q k n np : Nat} {u : Bool} {tr t' : CT} {ps : List (List AV)} {news : List Value} (ht : P.underlying t = some (.slice el)) (hi : P.info? el = some i) (hr : HR ρ g h w)
    (hb : g.blk l = some (b, c)) (ho : h.get l = .cells i.size u np tr) (hod : o % i.size = 0) (hle : o / i.size + q + n ≤ np) {zv : Value} (hs : Ap P t tx ty el i zv xv n news w) (hn : PCR ρ g i.size ps news) (hln : ps.length = n) (hroom : q + n ≤ k)
    (g1 : ∀ p x, ps[p]? = some x → t'.get (o / i.size + q + p) = x) (g2 : ∀ p, (p < o / i.size + q ∨ o / i.size + q + ps.length ≤ p) → t'.get p = tr.get p) (hnx : h'.nx = h.nx) (hg : ∀ l', h'.get l' = if l' = l then .cells i.size u np t' else h.get l') (hfl : h'.fl = h.fl ∧ h.fl ≤ l.num) :
    (Builtin.append_ #[t, tx] ty #[.slice (some ⟨b, c + o, none⟩) q k, xv]).run P w = .ok (.slice (some ⟨b, c + o, none⟩) (q + n) k) (w.setCells b (c + (o + q * i.size)) news) ∧ Step ρ g h w g h' (w.setCells b (c + (o + q * i.size)) news) := by
  have hx := hr.ob l b c hb
  rw [ho] at hx
  obtain ⟨cs, e, fz, k1, k2, k3, k4, k5, ⟨hz, k6⟩, kq, k7, k8⟩ := hx
  generalize hzz : i.size = z at *
  have hnl : news.length = n * z := by rw [hn.1, hln]
  have ho2 := mod_div hod
  have hmul : (o / z + q + n) * z ≤ np * z := Nat.mul_le_mul_right z hle
  rw [Nat.add_mul, Nat.add_mul, ho2] at hmul
  refine ⟨?_, hr.putV hb ho news (o + q * z) (by omega) hn.2.1 (fun p a hp => ?_) (fun p hp => ?_) hnx hg hfl⟩
  · have := hs.room b (c + o) q k hroom (fun j hj => by
      rw [hzz]
      simp only [World.cell?, k1, Option.isSome_none, Bool.false_eq_true, if_false]
      rw [Array.getElem?_eq_getElem (by omega)]; rfl) (fun j hj => by
      rw [hzz]
      simp only [World.frozen?, k1]
      have := k3 (c + o + q * z + j) (by omega)
      rw [← Bool.not_eq_true, Bool.and_eq_true, decide_eq_true_eq, decide_eq_true_eq]
      exact this)
    rw [hzz, Nat.add_assoc c o] at this
    exact this
  · unfold cellOf at hp
    split at hp
    case isFalse => cases hp
    case isTrue hp1 =>
    have hpd := Nat.div_add_mod p z
    have hpm := Nat.mod_lt p hz
    by_cases hin : o / z + q ≤ p / z ∧ p / z < o / z + q + ps.length
    · obtain ⟨x, hx⟩ : ∃ x, ps[p / z - (o / z + q)]? = some x := ⟨_, List.getElem?_eq_getElem (by omega)⟩
      have hg1 := g1 _ _ hx
      rw [show o / z + q + (p / z - (o / z + q)) = p / z from by omega] at hg1
      rw [hg1] at hp
      obtain ⟨v, v1, v2⟩ := (hn.2.2 _ _ hx).2 _ _ hp
      have hd := at_div (i := 0) (o := p) (q := o / z + q) hz hin.1
      rw [Nat.add_mul, ho2] at hd
      have hlt := (List.getElem?_eq_some_iff.1 v1).1
      exact .inl ⟨by omega, by omega, v, by rw [← v1]; congr 1; omega, v2⟩
    · rw [g2 _ (by omega)] at hp
      refine .inr ⟨fun hc => hin ?_, by rw [cellOf_at hp1]; exact hp⟩
      constructor
      · rw [Nat.le_div_iff_mul_le hz, Nat.add_mul, ho2]; exact hc.1
      · rw [Nat.div_lt_iff_lt_mul hz, Nat.add_mul, Nat.add_mul, ho2, hln]; omega
  · by_cases hin : o / z + q ≤ p ∧ p < o / z + q + ps.length
    · obtain ⟨x, hx⟩ : ∃ x, ps[p - (o / z + q)]? = some x := ⟨_, List.getElem?_eq_getElem (by omega)⟩
      have hg1 := g1 _ _ hx
      rw [show o / z + q + (p - (o / z + q)) = p from by omega] at hg1
      rw [hg1]
      exact (hn.2.2 _ _ hx).1
    · rw [g2 _ (by omega)]; exact kq p hp
theorem app_grow {t tx ty el : TypeId} {i : TypeInfo} {z : Value} {xv : Value} {a : Option Addr} {q k n : Nat} {tr t' : CT} {ps : List (List AV)} {olds news : List Value} (ht : P.underlying t = some (.slice el)) (hi : P.info? el = some i) (hz : i.zero = some z)
    (hzl : z.cells.size = i.size) (hz1 : ∀ v ∈ z.cells.toList, v.oneCell = true) (hs1 : 1 ≤ i.size) (hr : HR ρ g h w)
    (hold : (Builtin.firstCells i.size q (.slice a q k)).run P w.drew = .ok olds.toArray w.drew) (ho : PCR ρ g i.size (pcsL tr q 0) olds) (hs : Ap P t tx ty el i z xv n news w) (hn0 : n ≠ 0) (hn : PCR ρ g i.size ps news) (hln : ps.length = n) (hroom : k < q + n)
    (hb : 2 * (q + n) * i.bytes ≤ 281474976710656) (hb2 : q + n ≤ 4611686018427387904)
    (g1 : ∀ p x, ps[p]? = some x → t'.get (q + p) = x) (g2 : ∀ p, p < q → t'.get p = tr.get p) (hnx : h'.nx.num = h.nx.num + 1) (hg : ∀ l', h'.get l' = if l' = h.nx then .cells i.size true (q + n) t' else h.get l') (hfl : h'.fl = h.fl ∧ h.fl ≤ h.nx.num) :
    ∃ v g' w', (Builtin.append_ #[t, tx] ty #[.slice a q k, xv]).run P w = .ok v w' ∧ Step ρ g h w g' h' w' ∧ VR ρ g' (.slice h.nx 0 (q + n) 0) v := by
  have hrun := hs.grow hn0 a q k olds hold hroom (by omega) (by
    have h1 := Nat.mul_le_mul_right i.bytes (nextslicecap_le hroom)
    omega) (by
    have h1 := Nat.mul_le_mul_right i.bytes (show n ≤ 2 * (q + n) by omega)
    omega)
  have hge := grownCap_ge w (q + n) k el
  generalize grownCap w (q + n) k el = m at *
  have hol : olds.length = q * i.size := by rw [ho.1, pcsL_length]
  have hnl : news.length = n * i.size := by rw [hn.1, hln]
  have hzc := size_zeroCells z.cells (m - (q + n))
  rw [hzl, Nat.sub_mul, Nat.add_mul] at hzc
  have hm : (q + n) * i.size ≤ m * i.size := Nat.mul_le_mul_right _ hge
  rw [Nat.add_mul] at hm
  have hfz : ((olds ++ news).toArray ++ Builtin.zeroCells z.cells (m - (q + n))).size = m * i.size := by
    rw [Array.size_append, hzc, List.size_toArray, List.length_append]; omega
  have hst := Step.drew hr (w.drawn + 1)
  have hle := G.ext_le hr.fresh w.heap.size 0 (m * i.size) i.size
  obtain ⟨c1, c2⟩ := app_cell (t := tr) (t' := t') (q := q) (by omega) g1 g2 (ho.mono hle) (hn.mono hle)
  rw [hln] at c1 c2
  have hnw := hst.hr.new (h' := h') (.cells i.size true (q + n) t') (.cells ((olds ++ news).toArray ++ Builtin.zeroCells z.cells (m - (q + n))) el) (m * i.size) i.size hnx hg hfl
    ⟨_, el, (0, 0), by simp, hfz, fun j _ => by simp, by rw [Nat.zero_add, Nat.add_mul]; exact hm, fun h => Bool.noConfusion h, ⟨by omega, rfl⟩, c1, fun j v hj => ?_, fun o a ha => ?_⟩
  · exact ⟨_, _, _, hrun, hst.trans hnw, .slicu _ _ _ m _ _ (g.ext_new _ _ _ _ _).1 (by
      obtain ⟨e1, e2, e3⟩ := g.ext_new h.nx w.heap.size 0 (m * i.size) i.size
      show 0 + 0 + m * (g.ext h.nx w.heap.size 0 (m * i.size) i.size).sz h.nx = (g.ext h.nx w.heap.size 0 (m * i.size) i.size).fin h.nx
      rw [e2, e3]; omega) hge⟩
  · have hmem := Array.mem_of_getElem? hj
    rw [Array.mem_append] at hmem
    rcases hmem with hmem | hmem
    · rw [List.mem_toArray, List.mem_append] at hmem
      rcases hmem with hmem | hmem
      · exact ho.2.1 v hmem
      · exact hn.2.1 v hmem
    · simp only [Builtin.zeroCells, Array.mem_map, Array.mem_range] at hmem
      obtain ⟨j', hj', rfl⟩ := hmem
      have hzp : 0 < z.cells.size := by omega
      have hmod : j' % z.cells.size < z.cells.size := Nat.mod_lt _ hzp
      rw [getElem!_pos z.cells (j' % z.cells.size) hmod]
      exact hz1 _ (Array.mem_toList_iff.2 (Array.getElem_mem _))
  · obtain ⟨v, v1, v2⟩ := c2 o a ha
    refine ⟨v, ?_, v2⟩
    have hlt := (List.getElem?_eq_some_iff.1 v1).1
    rw [Nat.zero_add, Array.getElem?_append_left (by simpa using hlt)]
    simpa using v1
end
end Ev
end Go.Proofs.YticoibkgeejkoaaGreatDoor
namespace Go.Proofs.YticoibkgeejkoaaGreatDoor
namespace Ev
set_option linter.unusedVariables false
noncomputable section
variable {ρ : Nat → Value} {g : G} {h h' : Hp} {w : World} {P : Program}
theorem appNew_true {z by_ n : Nat} {ps : List (List AV)} {c : AV → Hp → Bool} (e : appNew z by_ n ps h c = true) : 2 * n * by_ ≤ 281474976710656 ∧ n ≤ 4611686018427387904 ∧ ∃ t' h', c (.slice h.nx 0 n 0) h' = true ∧
    (∀ p x, ps[p]? = some x → t'.get (0 + p) = x) ∧ h'.nx.num = h.nx.num + 1 ∧ (∀ l', h'.get l' = if l' = h.nx then .cells z true n t' else h.get l') ∧ h'.fl = h.fl ∧ h.fl ≤ h.nx.num := by
  obtain ⟨e1, e⟩ := both_true e
  obtain ⟨e2, e⟩ := both_true e
  obtain ⟨t', e, g1, _⟩ := putpK_true e
  obtain ⟨h', e, hn, hg, hfl⟩ := Hp.new_true e
  exact ⟨ble_true e1, ble_true e2, t', h', e, g1, hn, hg, hfl⟩
theorem appOut_true {z by_ n o q np : Nat} {l : L} {t : CT} {ps : List (List AV)} {c : AV → Hp → Bool} (e : appOut z by_ n ps l o q np t h c = true) : 2 * (q + n) * by_ ≤ 281474976710656 ∧ q + n ≤ 4611686018427387904 ∧ o = 0 ∧ q ≤ np ∧
    ∃ t' h', c (.slice h.nx 0 (q + n) 0) h' = true ∧ (∀ p x, ps[p]? = some x → t'.get (q + p) = x) ∧ (∀ p, p < q → t'.get p = t.get p) ∧ h'.nx.num = h.nx.num + 1 ∧ (∀ l', h'.get l' = if l' = h.nx then .cells z true (q + n) t' else h.get l') ∧ h'.fl = h.fl ∧ h.fl ≤ h.nx.num := by
  obtain ⟨e1, e⟩ := both_true e
  obtain ⟨e2, e⟩ := both_true e
  obtain ⟨e3, e⟩ := both_true e
  obtain ⟨e4, e⟩ := both_true e
  obtain ⟨t', e, g1, g2⟩ := putpK_true e
  obtain ⟨h', e, hn, hg, hfl⟩ := Hp.new_true e
  exact ⟨ble_true e1, ble_true e2, beq_true e3, ble_true e4, t', h', e, g1, fun p hp => g2 p (.inl hp), hn, hg, hfl⟩
theorem appIn_true {z n o q k np : Nat} {l : L} {u : Bool} {t : CT} {ps : List (List AV)} {c : AV → Hp → Bool} (e : appIn z n ps l o q k u np t h c = true) : o % z = 0 ∧ o / z + q + n ≤ np ∧
    ∃ t' h', c (.slice l o (q + n) k) h' = true ∧ (∀ p x, ps[p]? = some x → t'.get (o / z + q + p) = x) ∧ (∀ p, (p < o / z + q ∨ o / z + q + ps.length ≤ p) → t'.get p = t.get p) ∧ h'.nx = h.nx ∧ (∀ l', h'.get l' = if l' = l then .cells z u np t' else h.get l') ∧ h'.fl = h.fl ∧ h.fl ≤ l.num := by
  obtain ⟨e1, e⟩ := both_true e
  obtain ⟨e2, e⟩ := both_true e
  obtain ⟨t', e, g1, g2⟩ := putpK_true e
  obtain ⟨h', e, hn, hg, hfl⟩ := Hp.set_true e
  exact ⟨beq_true e1, ble_true e2, t', h', e, g1, g2, hn, hg, hfl⟩
section
variable {t tx ty el : TypeId} {i : TypeInfo} {z : Value} {xv : Value} {n : Nat} {ps : List (List AV)} {news : List Value} {c : AV → Hp → Bool}
theorem appNew_ok {a : Option Addr} {k : Nat} (ht : P.underlying t = some (.slice el)) (hi : P.info? el = some i) (hz : i.zero = some z)
    (hzl : z.cells.size = i.size) (hz1 : ∀ v ∈ z.cells.toList, v.oneCell = true) (hs1 : 1 ≤ i.size) (hr : HR ρ g h w) (hs : Ap P t tx ty el i z xv n news w) (hn : PCR ρ g i.size ps news) (hln : ps.length = n) (hk : k < n)
    (e : appNew i.size i.bytes n ps h c = true) : Eff P ρ g h w (Builtin.append_ #[t, tx] ty #[.slice a 0 k, xv]) c := by
  obtain ⟨e1, e2, t', h', e, g1, hnx, hg, hfl⟩ := appNew_true e
  have hold : (Builtin.firstCells i.size 0 (.slice a 0 k)).run P w.drew = .ok ([] : List Value).toArray w.drew := by
    cases a with
    | none => exact run_firstCells_none _ _ _ _ _
    | some a => exact run_firstCells_some _ _ 0 a 0 k [] (by simp) (fun j u hj => by simp at hj)
  obtain ⟨v, g', w', a1, a2, a3⟩ := app_grow (ty := ty) (tr := .e) (q := 0) ht hi hz hzl hz1 hs1 hr hold PCR.nil hs (by omega) hn hln (by omega) (by rw [Nat.zero_add]; exact e1) (by omega) g1 (fun p hp => absurd hp (Nat.not_lt_zero _)) hnx (by rw [Nat.zero_add]; exact hg) hfl
  rw [Nat.zero_add] at a3
  exact ⟨_, v, g', h', w', a1, a2, a3, e⟩
theorem appOut_ok {l : L} {b b0 o q k np : Nat} {u : Bool} {tr : CT} (ht : P.underlying t = some (.slice el)) (hi : P.info? el = some i) (hz : i.zero = some z)
    (hzl : z.cells.size = i.size) (hz1 : ∀ v ∈ z.cells.toList, v.oneCell = true) (hs1 : 1 ≤ i.size) (hr : HR ρ g h w) (hb : g.blk l = some (b, b0)) (ho : h.get l = .cells i.size u np tr) (hs : Ap P t tx ty el i z xv n news w) (hn0 : n ≠ 0) (hn : PCR ρ g i.size ps news) (hln : ps.length = n) (hk : k < q + n)
    (e : appOut i.size i.bytes n ps l o q np tr h c = true) : Eff P ρ g h w (Builtin.append_ #[t, tx] ty #[.slice (some ⟨b, b0 + o, none⟩) q k, xv]) c := by
  obtain ⟨e1, e2, rfl, e3, t', h', e, g1, g2, hnx, hg, hfl⟩ := appOut_true e
  obtain ⟨olds, o1, o2⟩ := hr.pieces (q := 0) (n := q) hb ho (by omega)
  have hold : (Builtin.firstCells i.size q (.slice (some ⟨b, b0 + 0, none⟩) q k)).run P w.drew = .ok olds.toArray w.drew :=
    run_firstCells_some _ _ q _ q k olds (by rw [o1.1, pcsL_length]) (fun j v hj => by
      have := o2 j v hj
      rw [Nat.zero_mul] at this
      rw [add_plain]
      simpa using this)
  obtain ⟨v, g', w', a1, a2, a3⟩ := app_grow (ty := ty) ht hi hz hzl hz1 hs1 hr hold o1 hs hn0 hn hln hk e1 e2 g1 g2 hnx hg hfl
  exact ⟨_, v, g', h', w', a1, a2, a3, e⟩
theorem appIn_ok {l : L} {b b0 o q k k' np : Nat} {u : Bool} {tr : CT} (ht : P.underlying t = some (.slice el)) (hi : P.info? el = some i) (hr : HR ρ g h w) (hb : g.blk l = some (b, b0)) (ho : h.get l = .cells i.size u np tr) (hs : Ap P t tx ty el i z xv n news w) (hn : PCR ρ g i.size ps news) (hln : ps.length = n) (hk : q + n ≤ k)
    (hv : VR ρ g (.slice l o (q + n) k') (.slice (some ⟨b, b0 + o, none⟩) (q + n) k))
    (e : appIn i.size n ps l o q k' u np tr h c = true) : Eff P ρ g h w (Builtin.append_ #[t, tx] ty #[.slice (some ⟨b, b0 + o, none⟩) q k, xv]) c := by
  obtain ⟨e1, e2, t', h', e, g1, g2, hnx, hg, hfl⟩ := appIn_true e
  obtain ⟨a1, a2⟩ := app_room (ty := ty) ht hi hr hb ho e1 e2 hs hn hln hk g1 g2 hnx hg hfl
  exact ⟨_, _, g, h', _, a1, a2, hv, e⟩
theorem appMore_ok {l : L} {b b0 o q k np : Nat} {u : Bool} {tr : CT} (ht : P.underlying t = some (.slice el)) (hi : P.info? el = some i) (hz : i.zero = some z)
    (hzl : z.cells.size = i.size) (hz1 : ∀ v ∈ z.cells.toList, v.oneCell = true) (hs1 : 1 ≤ i.size) (hr : HR ρ g h w) (hb : g.blk l = some (b, b0)) (ho : h.get l = .cells i.size u np tr) (hs : Ap P t tx ty el i z xv n news w) (hn0 : n ≠ 0) (hn : PCR ρ g i.size ps news) (hln : ps.length = n)
    (hcap : b0 + o + k * g.sz l = g.fin l) (e : appMore i.size i.bytes n ps l o q np tr h c = true) : Eff P ρ g h w (Builtin.append_ #[t, tx] ty #[.slice (some ⟨b, b0 + o, none⟩) q k, xv]) c := by
  by_cases hk : k < q + n
  · obtain ⟨a, v, g', h', w', a1, a2, a3, e⟩ := appOut_ok (ty := ty) ht hi hz hzl hz1 hs1 hr hb ho hs hn0 hn hln hk e
    obtain ⟨h'', e, hn2, hg2, hfl2⟩ := Hp.set_true e
    exact ⟨a, v, g', h'', w', a1, a2.trans (a2.hr.dead hn2 hg2 hfl2), a3, e⟩
  · obtain ⟨e1, e2, rfl, e3, t', h', e, g1, g2, hnx, hg, hfl⟩ := appOut_true e
    obtain ⟨h'', e, hn2, hg2, hfl2⟩ := Hp.set_true e
    obtain ⟨olds, o1, o2⟩ := hr.pieces (q := 0) (n := q) hb ho (by omega)
    have hx := hr.ob l b b0 hb
    rw [ho] at hx
    obtain ⟨cs, el', fz, k1, k2, k3, k4, k5, ⟨_, k6⟩, kq, k7, k8⟩ := hx
    rw [← k6] at hcap
    have hnl : news.length = n * i.size := by rw [hn.1, hln]
    have hkm : (q + n) * i.size ≤ k * i.size := Nat.mul_le_mul_right _ (by omega)
    have hkm2 := hkm
    rw [Nat.add_mul] at hkm2
    have hlx : l ≠ h.nx := fun e => by rw [e, hr.fresh] at hb; cases hb
    have hrun := hs.room b (b0 + 0) q k (by omega) (fun j hj => by
      simp only [World.cell?, k1, Option.isSome_none, Bool.false_eq_true, if_false]
      rw [Array.getElem?_eq_getElem (by omega)]; rfl) (fun j hj => by
      simp only [World.frozen?, k1]
      have := k3 (b0 + 0 + q * i.size + j) (by omega)
      rw [← Bool.not_eq_true, Bool.and_eq_true, decide_eq_true_eq, decide_eq_true_eq]
      exact this)
    have hst := hr.more (h' := h'') (m := q + n) (t' := t') hb ho news (q * i.size) (by omega) (by omega) hn.2.1 (fun p a hp => ?_) (fun p hp => ?_) (by rw [hn2]; exact hnx) (fun l' => by
      rw [hg2]
      by_cases hl : l' = l
      · rw [if_pos hl, if_pos hl]
      · rw [if_neg hl, if_neg hl, hg]) ⟨hfl2.1.trans hfl.1, by rw [← hfl.1]; exact hfl2.2⟩
    · refine ⟨_, _, _, h'', _, by simpa using hrun, by simpa using hst, ?_, e⟩
      have := VR.slicu (ρ := ρ) (g := g.ext h.nx b b0 (g.fin l) (g.sz l)) h.nx 0 (q + n) k b b0 (g.ext_new _ _ _ _ _).1 (by
        obtain ⟨f1, f2, f3⟩ := g.ext_new h.nx b b0 (g.fin l) (g.sz l)
        rw [f2, f3, ← k6]; exact hcap) (by omega)
      simpa using this
    · unfold cellOf at hp
      split at hp
      case isFalse => cases hp
      case isTrue hp1 =>
      have hzp : 0 < i.size := hs1
      have hpd := Nat.div_add_mod p i.size
      have hpm := Nat.mod_lt p hzp
      have hpq : p / i.size < q + n := by rw [Nat.div_lt_iff_lt_mul hzp]; exact hp1
      by_cases hin : q ≤ p / i.size
      · obtain ⟨x, hx⟩ : ∃ x, ps[p / i.size - q]? = some x := ⟨_, List.getElem?_eq_getElem (by omega)⟩
        have hg1 := g1 _ _ hx
        rw [show q + (p / i.size - q) = p / i.size from by omega] at hg1
        rw [hg1] at hp
        obtain ⟨v, v1, v2⟩ := (hn.2.2 _ _ hx).2 _ _ hp
        have hd := at_div (i := 0) (o := p) (q := q) hzp hin
        have hlt := (List.getElem?_eq_some_iff.1 v1).1
        exact .inl ⟨by omega, by omega, v, by rw [← v1]; congr 1; omega, v2⟩
      · rw [g2 _ (by omega)] at hp
        have hlt : p < q * i.size := by rw [← Nat.div_lt_iff_lt_mul hzp]; omega
        have hqn : q * i.size ≤ np * i.size := Nat.mul_le_mul_right _ e3
        exact .inr ⟨by omega, by rw [cellOf_at (by omega)]; exact hp⟩
    · by_cases hin : q ≤ p
      · obtain ⟨x, hx⟩ : ∃ x, ps[p - q]? = some x := ⟨_, List.getElem?_eq_getElem (by omega)⟩
        have hg1 := g1 _ _ hx
        rw [show q + (p - q) = p from by omega] at hg1
        rw [hg1]
        exact (hn.2.2 _ _ hx).1
      · rw [g2 _ (by omega)]; exact kq p (by omega)
theorem app0_ok {x : AV} {yv : Value} (ht : P.underlying t = some (.slice el)) (hi : P.info? el = some i) (hz : i.zero = some z)
    (hzl : z.cells.size = i.size) (hz1 : ∀ v ∈ z.cells.toList, v.oneCell = true) (hs1 : 1 ≤ i.size) (hr : HR ρ g h w) (hx : VR ρ g x yv) (hs : Ap P t tx ty el i z xv n news w) (hn : PCR ρ g i.size ps news) (hln : ps.length = n)
    (e : app0 i.size i.bytes x h c n ps = true) : Eff P ρ g h w (Builtin.append_ #[t, tx] ty #[yv, xv]) c := by
  rcases sel_true e with ⟨e0, e_1⟩ | ⟨e0, e_1⟩
  · have e0 := beq_true e0
    have e0' : n = 0 := e0
    subst e0'
    rcases AV.sliceK_true (v := x) e_1 with ⟨rfl, e_2⟩ | ⟨l, o, q, k, rfl, e_2⟩
    · have := hx.inv_nils; subst this
      exact ⟨_, _, g, h, w, hs.nix rfl _ _ _ (Nat.le_refl _) (fun _ => ⟨rfl, rfl⟩), Step.refl hr, .nils, e_2⟩
    · have e' : c (.slice l o q k) h = true ∧ (k = 0 ∨ q + 1 ≤ k) := by
        rcases sel_true e_2 with ⟨e1, e_3⟩ | ⟨e1, e_3⟩
        · exact ⟨e_3, .inl (beq_true e1)⟩
        · obtain ⟨e1, e_4⟩ := both_true e_3
          exact ⟨e_4, .inr (ble_true e1)⟩
      obtain ⟨e_2, hk⟩ := e'
      have : ∃ a q', yv = .slice (some a) q q' ∧ q ≤ q' := by
        cases hx with
        | slice _ _ _ q' b c hb => exact ⟨_, q', rfl, by omega⟩
        | slicu _ _ _ q' b c hb _ hk2 => exact ⟨_, q', rfl, hk2⟩
        | slice0 _ _ a _ _ => exact ⟨_, 0, rfl, Nat.le_refl _⟩
        | slicez _ _ a => exact ⟨_, 0, rfl, Nat.le_refl _⟩
      obtain ⟨a, q', rfl, hq⟩ := this
      exact ⟨_, _, g, h, w, hs.nix rfl _ _ _ hq (fun h => by cases h), Step.refl hr, hx, e_2⟩
  · have hn0 : n ≠ 0 := beq_false e0
    rcases AV.sliceK_true (v := x) e_1 with ⟨rfl, e_5⟩ | ⟨l, o, q, k, rfl, e_5⟩
    · have := hx.inv_nils; subst this
      exact appNew_ok ht hi hz hzl hz1 hs1 hr hs hn hln (by omega) e_5
    · rcases sel_true e_5 with ⟨e1, e_6⟩ | ⟨e1, e_6⟩
      · have e1 := beq_true e1
        have e1' : k = 0 := e1
        subst e1'
        obtain ⟨z', u, np, tr, ho, e_7⟩ := AO.cellsK_true e_6
        obtain ⟨e2, e_8⟩ := both_true e_7
        have e2 := beq_true e2
        subst e2
        rcases sel_true e_8 with ⟨e3, e_9⟩ | ⟨e3, e_9⟩
        · obtain ⟨e3, e4⟩ := both_true e3
          have e3 : 1 ≤ q := ble_true e3
          have e4 : o / i.size + q + n ≤ np := ble_true e4
          cases hx with
          | slicu _ _ _ q' b b0 hb hf hk =>
            have hx := hr.ob l b b0 hb
            rw [ho] at hx
            obtain ⟨cs, el', fz, k1, k2, k3, k4, k5, ⟨_, k6⟩, kq, k7, k8⟩ := hx
            have hroom : q + n ≤ q' := by
              obtain ⟨hod, _⟩ := appIn_true e_9
              have ho2 := mod_div hod
              have hm := Nat.mul_le_mul_right i.size e4
              rw [Nat.add_mul, Nat.add_mul, ho2] at hm
              rw [← k6] at hf
              have : (q + n) * i.size ≤ q' * i.size := by rw [Nat.add_mul]; omega
              exact Nat.le_of_mul_le_mul_right this hs1
            exact appIn_ok ht hi hr hb ho hs hn hln hroom (.slicu _ _ _ _ _ _ hb hf hroom) e_9
          | slice0 _ _ a _ _ => omega
        · cases hx with
          | slicu _ _ _ q' b b0 hb hf hk => exact appMore_ok ht hi hz hzl hz1 hs1 hr hb ho hs hn0 hn hln hf e_9
          | slice0 _ _ a _ _ =>
            obtain ⟨f1, f2, f0, f3, t', h', e_20, g1, g2, hnx, hg, hfl⟩ := appOut_true e_9
            obtain ⟨h'', e_21, hn2, hg2, hfl2⟩ := Hp.set_true e_20
            have hold : (Builtin.firstCells i.size 0 (.slice (some a) 0 0)).run P w.drew = .ok ([] : List Value).toArray w.drew := run_firstCells_some _ _ 0 a 0 0 [] (by simp) (fun j u hj => by simp at hj)
            obtain ⟨v, g', w', a1, a2, a3⟩ := app_grow (ty := ty) (tr := .e) (q := 0) ht hi hz hzl hz1 hs1 hr hold PCR.nil hs hn0 hn hln (by omega) f1 (by omega) g1 (fun p hp => absurd hp (Nat.not_lt_zero _)) hnx hg hfl
            exact ⟨_, v, g', h'', w', a1, a2.trans (a2.hr.dead hn2 hg2 hfl2), a3, e_21⟩
      · have hk0 : k ≠ 0 := beq_false e1
        rcases sel_true e_6 with ⟨e2, e_10⟩ | ⟨e2, e_10⟩
        · have e2 : q + n + 1 ≤ k := ble_true e2
          obtain ⟨z', u, np, tr, ho, e_11⟩ := AO.cellsK_true e_10
          obtain ⟨e3, e_12⟩ := both_true e_11
          have e3 := beq_true e3
          subst e3
          cases hx with
          | slice _ _ _ q' b b0 hb => exact appIn_ok ht hi hr hb ho hs hn hln (by omega) (.slice _ _ _ _ _ _ hb) e_12
          | slicu => exact absurd rfl hk0
          | slice0 => exact absurd rfl hk0
          | slicez _ _ a => omega
        · have e2 : k < q + n + 1 := by
            have h2 : ¬ (q + n + 1 ≤ k) := fun hc => by
              have := Nat.ble_eq_true_of_le hc
              rw [show Nat.ble (q + n + 1) k = false from e2] at this
              cases this
            omega
          rcases sel_true e_10 with ⟨e3, e_13⟩ | ⟨e3, e_13⟩
          · have e3 := beq_true e3
            have e3' : q = 0 := e3
            subst e3'
            have : ∃ a q', yv = .slice (some a) 0 q' ∧ q' < n := by
              cases hx with
              | slice _ _ _ q' b c hb => exact ⟨_, q', rfl, by omega⟩
              | slicu => exact absurd rfl hk0
              | slice0 => exact absurd rfl hk0
              | slicez _ _ a => exact ⟨a, 0, rfl, by omega⟩
            obtain ⟨a, q', rfl, hq⟩ := this
            exact appNew_ok ht hi hz hzl hz1 hs1 hr hs hn hln hq e_13
          · have e3 : q ≠ 0 := beq_false e3
            obtain ⟨z', u, np, tr, ho, e_14⟩ := AO.cellsK_true e_13
            obtain ⟨e4, e_15⟩ := both_true e_14
            have e4 := beq_true e4
            subst e4
            cases hx with
            | slice _ _ _ q' b b0 hb => exact appOut_ok ht hi hz hzl hz1 hs1 hr hb ho hs hn0 hn hln (by omega) e_15
            | slicu => exact absurd rfl hk0
            | slice0 => exact absurd rfl hk0
            | slicez => exact absurd rfl e3
theorem aAppend_ok {e' : TypeId} {x y : AV} {yv : Value} (ht : P.underlying t = some (.slice el)) (hi : P.info? el = some i) (hz : i.zero = some z) (hk : P.underlying tx = some (.slice e'))
    (hzl : z.cells.size = i.size) (hz1 : ∀ v ∈ z.cells.toList, v.oneCell = true) (hr : HR ρ g h w) (hx : VR ρ g x yv) (hy : VR ρ g y xv)
    (e : aAppend i.size i.bytes x y h c = true) : Eff P ρ g h w (Builtin.append_ #[t, tx] ty #[yv, xv]) c := by
  obtain ⟨e1, e⟩ := both_true e
  have e1 : 1 ≤ i.size := ble_true e1
  obtain ⟨n, ps, news, hs, hn, hln, e⟩ := srcA_ok hk hr hy e
  exact app0_ok ht hi hz hzl hz1 e1 hr hx (Ap.ofSrc ht hi hz hs) hn hln e
def repP (zs : List AV) (n : Nat) : List (List AV) := Nat.rec (motive := fun _ => List (List AV)) [] (fun _ ih => zs :: ih) n
theorem repP_length (zs : List AV) : ∀ n, (repP zs n).length = n
  | 0 => rfl
  | n + 1 => by show (zs :: repP zs n).length = _; rw [List.length_cons, repP_length zs n]
theorem repP_get (zs : List AV) : ∀ (n p : Nat) (x : List AV), (repP zs n)[p]? = some x → x = zs
  | 0, p, x, h => by
    have h : ([] : List (List AV))[p]? = some x := h
    simp at h
  | n + 1, p, x, h => by
    have h : (zs :: repP zs n)[p]? = some x := h
    cases p with
    | zero => simp at h; exact h.symm
    | succ p => simp at h; exact repP_get zs n p x h
def aApp1 (z by_ : Nat) (zs : List AV) (x : AV) (h : Hp) (c : AV → Hp → Bool) (n : Nat) : Bool := both (Nat.ble n (nat_lit 4611686018427387904)) (both (Nat.ble (Nat.mul n by_) (nat_lit 281474976710656)) (app0 z by_ x h c n (repP zs n)))
def aAppI (z by_ : Nat) (zs : List AV) (x y : AV) (h : Hp) (c : AV → Hp → Bool) : Bool := both (Nat.ble (nat_lit 1) z) (y.idxK (aApp1 z by_ zs x h c))
theorem aAppI_ok {kn : IntKind} {zs : List AV} {x y : AV} {yv : Value} (ht : P.underlying t = some (.slice el)) (hi : P.info? el = some i) (hz : i.zero = some z) (hk : P.underlying tx = some (.int kn))
    (hzl : z.cells.size = i.size) (hz1 : ∀ v ∈ z.cells.toList, v.oneCell = true) (hzs : VRs ρ g zs z.cells.toList) (hr : HR ρ g h w) (hx : VR ρ g x yv) (hy : VR ρ g y xv)
    (e : aAppI i.size i.bytes zs x y h c = true) : Eff P ρ g h w (Builtin.append_ #[t, tx] ty #[yv, xv]) c := by
  obtain ⟨e1, e⟩ := both_true e
  have e1 : 1 ≤ i.size := ble_true e1
  obtain ⟨kq, m, rfl, e⟩ := AV.idxK_true e hy
  obtain ⟨e2, e⟩ := both_true e
  obtain ⟨e3, e⟩ := both_true e
  have e2 := ble_true e2
  have e3 := ble_true e3
  have hzl2 : zs.length = i.size := by rw [VRs.length hzs, Array.length_toList, hzl]
  have hget : ∀ j, j < m * i.size → (Builtin.zeroCells z.cells m).toList[j]? = z.cells.toList[j % i.size]? := fun j hj => by
    have hmod : j % z.cells.size < z.cells.size := Nat.mod_lt _ (by omega)
    rw [Array.getElem?_toList]
    unfold Builtin.zeroCells
    rw [Array.getElem?_map, Array.getElem?_range, if_pos (by rw [hzl]; exact hj), Option.map_some, getElem!_pos z.cells (j % z.cells.size) hmod, Array.getElem?_toList, ← hzl, Array.getElem?_eq_getElem hmod]
  refine app0_ok ht hi hz hzl hz1 e1 hr hx (Ap.ofInt (kq := kq) ht hk hi hz hzl hz1 e1 e2 e3) ⟨?_, fun v hv => ?_, fun p x hp => ?_⟩ (repP_length zs m) e
  · rw [Array.length_toList, size_zeroCells, hzl, repP_length]
  · simp only [Builtin.zeroCells, Array.toList_map, List.mem_map] at hv
    obtain ⟨j, _, rfl⟩ := hv
    have hmod : j % z.cells.size < z.cells.size := Nat.mod_lt _ (by omega)
    rw [getElem!_pos z.cells (j % z.cells.size) hmod]
    exact hz1 _ (Array.mem_toList_iff.2 (Array.getElem_mem _))
  · have hpm : p < m := by have := (List.getElem?_eq_some_iff.1 hp).1; rwa [repP_length] at this
    have := repP_get zs m p x hp
    subst this
    refine ⟨hzl2, fun j a ha => ?_⟩
    have hj : j < i.size := by rw [← hzl2]; exact (List.getElem?_eq_some_iff.1 ha).1
    obtain ⟨v, v1, v2⟩ := VRs.get hzs j a ha
    refine ⟨v, ?_, v2⟩
    have hpz : p * i.size + i.size ≤ m * i.size := by
      have := Nat.mul_le_mul_right i.size (show p + 1 ≤ m from hpm)
      rwa [Nat.succ_mul] at this
    rw [hget _ (by omega), Nat.mul_comm, Nat.mul_add_mod, Nat.mod_eq_of_lt hj]
    exact v1
end
end
end Ev
end Go.Proofs.YticoibkgeejkoaaGreatDoor
namespace Go.Proofs.YticoibkgeejkoaaGreatDoor
namespace Ev
set_option linter.unusedVariables false
noncomputable section
variable {ρ : Nat → Value} {P : Program}
theorem FR.put {g : G} {N t : Nat} {F F' : NT} {tm : Array Value} {p q : D} {a : AV} {v : Value} (e : FR ρ g N F tm) (hv : VR ρ g a v) (ht : 16 * p.num + q.num = t) (hN : t < N) (h1 : tget p q F' = a) (h2 : ∀ x y, (x ≠ p ∨ y ≠ q) → tget x y F' = tget x y F) :
    FR ρ g N F' (tm.setIfInBounds t v) := by
  refine ⟨by rw [Array.size_setIfInBounds]; exact e.1, fun x y => ?_⟩
  have hlt : t < tm.size := Nat.lt_of_lt_of_le hN e.1
  by_cases hxy : x = p ∧ y = q
  · obtain ⟨rfl, rfl⟩ := hxy
    rw [h1, ht]
    simp only [Array.getD_eq_getD_getElem?, Array.getElem?_setIfInBounds, if_true, if_pos hlt, Option.getD_some]
    exact hv
  · have hne : t ≠ 16 * x.num + y.num := fun h => by
      have k1 := D.num_lt x; have k2 := D.num_lt y; have k3 := D.num_lt p; have k4 := D.num_lt q
      exact hxy ⟨D.num_inj (by omega), D.num_inj (by omega)⟩
    rw [h2 x y (by
      by_cases hx : x = p
      · exact .inr fun hy => hxy ⟨hx, hy⟩
      · exact .inl hx)]
    simp only [Array.getD_eq_getD_getElem?, Array.getElem?_setIfInBounds, if_neg hne]
    have := e.2 x y
    rwa [Array.getD_eq_getD_getElem?] at this
structure Pl where
  p : D
  q : D
def plOf (t : Nat) : Pl := ⟨D.of (Nat.div t (nat_lit 16)), D.of (Nat.mod t (nat_lit 16))⟩
theorem plOf_num {t : Nat} (ht : t < 256) : 16 * (plOf t).p.num + (plOf t).q.num = t := by
  show 16 * (D.of (t / 16)).num + (D.of (t % 16)).num = t
  rw [D.of_num _ (by omega), D.of_num _ (by omega)]
  omega
def Pl.get (l : Pl) (F : NT) : AV := tget l.p l.q F
def Pl.set (l : Pl) (k : NT → Bool) (F : NT) (v : AV) : Bool := tall (tset l.p l.q v k F)
structure Rd where
  get : NT → AV
def strN0 (b : UInt8) (_ : List UInt8) (ih : Nat → Nat) (acc : Nat) : Nat := ih (Nat.add (Nat.mul acc (nat_lit 256)) b.toNat)
def strN (l : List UInt8) (acc : Nat) : Nat := List.rec (motive := fun _ => Nat → Nat) (fun n => n) strN0 l acc
theorem strN_ok : ∀ (l : List UInt8), (∀ acc, strN l acc = acc * 256 ^ l.length + strN l 0) ∧ strN l 0 < 256 ^ l.length ∧ bytesOf l.length (strN l 0) = l
  | [] => ⟨fun acc => by show acc = acc * 256 ^ 0 + 0; omega, by show 0 < 256 ^ 0; decide, rfl⟩
  | b :: l => by
    obtain ⟨h1, h2, h3⟩ := strN_ok l
    have hb : b.toNat < 256 := b.toNat_lt
    have e0 : strN (b :: l) 0 = b.toNat * 256 ^ l.length + strN l 0 := by
      show strN l (0 * 256 + b.toNat) = _
      rw [h1]; simp
    refine ⟨fun acc => ?_, ?_, ?_⟩
    · show strN l (acc * 256 + b.toNat) = _
      rw [h1, e0, List.length_cons, Nat.pow_succ, Nat.add_mul, Nat.mul_assoc, Nat.mul_comm 256 (256 ^ l.length), Nat.add_assoc]
    · rw [e0, List.length_cons, Nat.pow_succ]
      have := Nat.mul_le_mul_right (256 ^ l.length) (show b.toNat + 1 ≤ 256 from hb)
      rw [Nat.add_mul] at this
      omega
    · rw [e0, List.length_cons, Nat.add_comm l.length 1, bytesOf_append 1 l.length b.toNat (strN l 0) h2, h3]
      show [UInt8.ofNat (b.toNat / 256 ^ 0 % 256)] ++ l = b :: l
      rw [Nat.pow_zero, Nat.div_one, Nat.mod_eq_of_lt hb]
      simp
def ofIntK (k : IntKind) (n : Int) : AV := match k with
  | .i64 => ofI n
  | k => .int k n
def ofV : Value → AV
  | .int .i64 n => match decide (-9223372036854775808 ≤ n ∧ n ≤ 9223372036854775807) with | true => ofI n | false => .undef
  | .int k n => .int k n
  | .bool b => .bool b
  | .string s => .str s.size (strN s.data.toList (nat_lit 0))
  | .pointer none => .nilp
  | .slice none 0 0 => .nils
  | .map none => .nilm
  | .nilFunc => .nilf
  | .nilIface => .nili
  | _ => .undef
theorem ofV_ok (g : G) (v : Value) : VR ρ g (ofV v) v := by
  unfold ofV
  split
  · split
    · exact vr_ofI _ (of_decide_eq_true ‹_›)
    · exact .undef _
  · exact .int _ _
  · exact .bool _
  · rename_i s
    obtain ⟨_, h2, h3⟩ := strN_ok s.data.toList
    have hl : s.data.toList.length = s.size := by rw [Array.length_toList]; rfl
    rw [hl] at h2 h3
    exact .str _ _ s h2 h3.symm
  · exact .nilp
  · exact .nils
  · exact .nilm
  · exact .nilf
  · exact .nili
  · exact .undef _
def rdOf : Operand → Rd
  | .tmp t => match Nat.ble (t + 1) 256 with | true => ⟨(plOf t).get⟩ | false => ⟨fun _ => .undef⟩
  | .const v => ⟨fun _ => ofV v⟩
  | .global _ => ⟨fun _ => .undef⟩
  | .func f => ⟨fun _ => .fn (.func f) [] []⟩
theorem rdOf_ok {g : G} {N : Nat} {F : NT} {a : Act} (e : FR ρ g N F a.tmps) (o : Operand) : VR ρ g ((rdOf o).get F) (a.eval o) := by
  cases o with
  | tmp t =>
    simp only [rdOf]
    split
    · rename_i h
      have ht : t < 256 := Nat.le_of_ble_eq_true h
      have := e.2 (plOf t).p (plOf t).q
      rw [plOf_num ht] at this
      exact this
    · exact .undef _
  | const v => exact ofV_ok g v
  | global _ => exact .undef _
  | func f => exact .fn _ _ _ _ _ .nil .nil
abbrev CH := Nat → List AV → Hp → (AV → Hp → Bool) → Bool
def YL : Nat := nat_lit 1099511627776
def FK (r : Option Nat) : Fence := { Fence.wide with round := r }
theorem FK.room (r : Option Nat) (k : Nat) : (FK r).room k := fun d hd => by cases hd
theorem FK.fenced (r : Option Nat) (m : Machine) : m.fenced P (FK r) := fenced_wide P m
theorem FK.calls {r : Option Nat} {f : FuncId} {args : Array Value} {w : World} {R : Ending → World → Prop} (h : Calls P f args w R) : CallsIn (FK r) 0 P f args w R := callsIn_wide.2 h
def Rnd (P : Program) (b : Nat) (args : Array Value) (w : World) (R : Value → World → Prop) : Prop :=
  ∃ f tmps asg body, (Instr.yield b args).run P w = .ok (.round b f tmps asg body) w ∧ RoundIn (FK none) 0 P b f tmps asg body w fun e w' => ∃ v, e = .returned v ∧ R v w'
theorem Rnd.mono {b : Nat} {args : Array Value} {w : World} {R R' : Value → World → Prop} (h : Rnd P b args w R) (hr : ∀ v w', R v w' → R' v w') : Rnd P b args w R' :=
  let ⟨f, tmps, asg, body, h1, h2⟩ := h
  ⟨f, tmps, asg, body, h1, h2.mono fun e w' ⟨v, h3, h4⟩ => ⟨v, h3, hr v w' h4⟩⟩
def CHok (P : Program) (ρ : Nat → Value) (ch : CH) : Prop :=
  (∀ (f : Nat) (la : List AV) (args : Array Value) (g : G) (h : Hp) (w : World) (c : AV → Hp → Bool), P.funcs[f]? ≠ none → f ≠ YL → ch f la h c = true → VRs ρ g la args.toList → HR ρ g h w →
    Calls P f args w fun e w' => ∃ v, e = .returned v ∧ ∃ a g' h', Step ρ g h w g' h' w' ∧ VR ρ g' a v ∧ c a h' = true) ∧
  ∀ (l : L) (b : Nat) (la : List AV) (args : Array Value) (g : G) (h : Hp) (w : World) (c : AV → Hp → Bool), ch YL (.yl l :: la) h c = true → g.blk l = some (b, 0) → VRs ρ g la args.toList → HR ρ g h w →
    Rnd P b args w fun v w' => ∃ a g' h', Step ρ g h w g' h' w' ∧ VR ρ g' a v ∧ c a h' = true
structure Cl where
  run : CH → NT → Hp → (AV → Hp → Bool) → Bool
def upV (P : Program) (K : Value → World → Prop) : Result Next → Prop
  | .ok (.value v) w' => K v w'
  | .ok .skip w' => K undef w'
  | .ok (.enter f args) w' => Calls P f args w' fun e w'' => ∃ v, e = .returned v ∧ K v w''
  | .ok (.round l f tmps asg body) w' => RoundIn (FK none) 0 P l f tmps asg body w' fun e w'' => ∃ v, e = .returned v ∧ K v w''
  | _ => False
theorem upV_wp {r : Option Nat} {K : Value → World → Prop} {o : Oper} {a : Act} {w : World} {next : Act → World → Prop} {Q : Exit → Act → World → Prop} (h : upV P K ((execOp a.eval o).run P w)) (hn : ∀ v w', K v w' → next (a.put o.dst v) w') : o.wpIn (FK r) 0 P a w next Q := by
  refine ⟨fun _ _ => trivial, ?_⟩
  have hsem : o.semAt (FK r).round a.eval = execOp a.eval o := Oper.semAt_eq _ _ _ fun c hc => by
    have he : execOp a.eval o = (do pure (.defer (← resolve a.eval c o.type))) := by simp [execOp, hc]
    rw [he, Sem.run_bind] at h
    cases hr : (resolve a.eval c o.type).run P w with
    | halt x w' => rw [hr] at h; exact h
    | ok d w' => rw [hr] at h; exact h
  rw [hsem]
  generalize (execOp a.eval o).run P w = r' at h
  cases r' with
  | halt x w' => exact h.elim
  | ok x w' =>
    cases x with
    | value v => exact hn _ _ h
    | skip => exact hn _ _ h
    | enter f args =>
      rw [Oper.uponIn_enter]
      refine ⟨fun h => (by cases h), (FK.calls h).mono fun e w'' he => ?_⟩
      obtain ⟨v, rfl, hk⟩ := he
      exact hn _ _ hk
    | round l f tmps asg body =>
      rw [Oper.uponIn_round]
      refine ⟨fun h => (by cases h), ?_⟩
      have h : RoundIn (FK r) 0 P l f tmps asg body w' fun e w'' => ∃ v, e = .returned v ∧ K v w'' := h
      refine h.mono fun e w'' he => ?_
      obtain ⟨v, rfl, hk⟩ := he
      exact hn _ _ hk
    | _ => exact h.elim
def Did (P : Program) (ρ : Nat → Value) (g : G) (h : Hp) (w : World) (o : Oper) (a : Act) (c : AV → Hp → Bool) : Prop :=
  ∀ K : Value → World → Prop, (∀ av v g' h' w', Step ρ g h w g' h' w' → VR ρ g' av v → c av h' = true → K v w') → upV P K ((execOp a.eval o).run P w)
def Cl.ok (P : Program) (ρ : Nat → Value) (N : Nat) (o : Oper) (cl : Cl) : Prop :=
  ∀ (ch : CH) (F : NT) (h : Hp) (c : AV → Hp → Bool) (g : G) (a : Act) (w : World), CHok P ρ ch → cl.run ch F h c = true → FR ρ g N F a.tmps → HR ρ g h w → Did P ρ g h w o a c
theorem Did.val {g : G} {h : Hp} {w : World} {o : Oper} {a : Act} {c : AV → Hp → Bool} {s : Sem Value} (ho : execOp a.eval o = (do pure (.value (← s)))) (e : Eff P ρ g h w s c) : Did P ρ g h w o a c := fun K hn => by
  obtain ⟨av, v, g', h', w', h1, h2, h3, h4⟩ := e
  rw [ho, Sem.run_bind, h1]
  exact hn av v g' h' w' h2 h3 h4
theorem Did.unit {g : G} {h : Hp} {w : World} {o : Oper} {a : Act} {c : AV → Hp → Bool} {s : Sem Unit} (ho : execOp a.eval o = (do s; pure .skip)) (e : EffU P ρ g h w s c) : Did P ρ g h w o a c := fun K hn => by
  obtain ⟨g', h', w', h1, h2, h4⟩ := e
  rw [ho, Sem.run_bind, h1]
  exact hn .undef undef g' h' w' h2 (.undef _) h4
theorem Did.call {g : G} {h : Hp} {w : World} {o : Oper} {a : Act} {c : AV → Hp → Bool} {f : Nat} {args : Array Value} (ho : (execOp a.eval o).run P w = .ok (.enter f args) w)
    (e : Calls P f args w fun e w' => ∃ v, e = .returned v ∧ ∃ a g' h', Step ρ g h w g' h' w' ∧ VR ρ g' a v ∧ c a h' = true) : Did P ρ g h w o a c := fun K hn => by
  rw [ho]
  refine Calls.mono e fun e w' he => ?_
  obtain ⟨v, rfl, av, g', h', h1, h2, h3⟩ := he
  exact ⟨v, rfl, hn av v g' h' w' h1 h2 h3⟩
structure Rg where
  run : CH → NT → Hp → (NT → Hp → Bool) → Bool
def Rg.ok (P : Program) (ρ : Nat → Value) (N : Nat) (ops : Array Oper) (l : List Nat) (rg : Rg) : Prop :=
  ∀ (ch : CH) (F : NT) (h : Hp) (k : NT → Hp → Bool) (g : G) (a : Act) (w : World) (Q : Exit → Act → World → Prop), CHok P ρ ch → rg.run ch F h k = true → FR ρ g N F a.tmps → HR ρ g h w →
    (∀ F' g' h' a' w', Step ρ g h w g' h' w' → FR ρ g' N F' a'.tmps → a'.defers = a.defers → k F' h' = true → Q .normal a' w') → ∀ r, wpOpsIn (FK r) 0 P ops Q l a w
def rgNil : Rg := ⟨fun _ F h k => k F h⟩
def rgPut2 (rest : Rg) (ch : CH) (h : Hp) (k : NT → Hp → Bool) (F : NT) : Bool := tall (rest.run ch F h k)
def rgPut1 (pl : Pl) (rest : Rg) (ch : CH) (F : NT) (k : NT → Hp → Bool) (v : AV) (h : Hp) : Bool := tall (pl.set (rgPut2 rest ch h k) F v)
def rgNo1 (rest : Rg) (ch : CH) (F : NT) (k : NT → Hp → Bool) (_ : AV) (h : Hp) : Bool := tall (rest.run ch F h k)
def rgPut (cl : Cl) (pl : Pl) (rest : Rg) (ch : CH) (F : NT) (h : Hp) (k : NT → Hp → Bool) : Bool := tall (cl.run ch F h (rgPut1 pl rest ch F k))
def rgNo (cl : Cl) (rest : Rg) (ch : CH) (F : NT) (h : Hp) (k : NT → Hp → Bool) : Bool := tall (cl.run ch F h (rgNo1 rest ch F k))
def rgPutO (cl : Cl) (dst : Option Nat) (N : Nat) (rest : Rg) : Rg :=
  match dst with
  | none => ⟨rgNo cl rest⟩
  | some t => match Nat.ble (t + 1) N && Nat.ble (t + 1) 256 with
    | true => ⟨rgPut cl (plOf t) rest⟩
    | false => ⟨fun _ _ _ _ => false⟩
theorem rgNil_ok {N : Nat} {ops : Array Oper} : Rg.ok P ρ N ops [] rgNil := fun ch F h k g a w Q _ e hF hr hk _ => hk F g h a w (Step.refl hr) hF rfl e
end
end Ev
end Go.Proofs.YticoibkgeejkoaaGreatDoor
namespace Go.Proofs.YticoibkgeejkoaaGreatDoor
namespace Ev
set_option linter.unusedVariables false
noncomputable section
variable {ρ : Nat → Value} {P : Program} {N : Nat} {R : Option Nat → Prop}
inductive Ex where
  | normal
  | exit (id : Nat)
  | ret
def Ex.is : Ex → Exit
  | .normal => .normal
  | .exit id => .exit id
  | .ret => .ret
structure Cc where
  run : CH → NT → Hp → (Ex → NT → Hp → Bool) → Bool
def Mks (P : Program) (n0 : Nat) (g : G) (h : Hp) (w : World) : List Deferred → Prop
  | [] => True
  | d :: ds => (∃ D, d = { target := .collected D, args := #[] } ∧ n0 ≤ D ∧ w.heap[D]? = some (.deferred (some [])) ∧ free g h D ∧ ∀ d' ∈ ds, d'.target ≠ .collected D) ∧ Mks P n0 g h w ds
theorem Mks.step {n0 : Nat} {g g' : G} {h h' : Hp} {w w' : World} (s : Step ρ g h w g' h' w') : ∀ {ds : List Deferred}, Mks P n0 g h w ds → Mks P n0 g' h' w' ds
  | [], _ => trivial
  | d :: ds, ⟨⟨D, h1, h2, h3, h4, h5⟩, h6⟩ => by
    have hlt : D < w.heap.size := (Array.getElem?_eq_some_iff.1 h3).1
    obtain ⟨h7, h8⟩ := s.fr D hlt h4
    exact ⟨⟨D, h1, h2, h7.trans h3, h8, h5⟩, Mks.step s h6⟩
def CQ (P : Program) (ρ : Nat → Value) (N n0 : Nat) (r : Option Nat) (g : G) (h : Hp) (w : World) (k : Ex → NT → Hp → Bool) : Exit → Act → World → Prop := fun e a' w' =>
  ∃ x F' g' h', e = Ex.is x ∧ Step ρ g h w g' h' w' ∧ FR ρ g' N F' a'.tmps ∧ (Mks P n0 g' h' w' a'.defers ∧ (r ≠ none → a'.defers = [])) ∧ k x F' h' = true
theorem CQ.later {n0 : Nat} {r : Option Nat} {g g' : G} {h h' : Hp} {w w' : World} {k : Ex → NT → Hp → Bool} (s : Step ρ g h w g' h' w') {e : Exit} {a : Act} {w'' : World} (q : CQ P ρ N n0 r g' h' w' k e a w'') : CQ P ρ N n0 r g h w k e a w'' :=
  let ⟨x, F', g2, h2, e1, e2, e3⟩ := q
  ⟨x, F', g2, h2, e1, s.trans e2, e3⟩
def Cc.ok (R : Option Nat → Prop) (P : Program) (ρ : Nat → Value) (N : Nat) (c : Code) (cc : Cc) : Prop :=
  ∀ (ch : CH) (F : NT) (h : Hp) (k : Ex → NT → Hp → Bool) (g : G) (a : Act) (w : World), ∀ (r : Option Nat) (n0 : Nat), R r → CHok P ρ ch → n0 ≤ w.heap.size → cc.run ch F h k = true → FR ρ g N F a.tmps → (Mks P n0 g h w a.defers ∧ (r ≠ none → a.defers = [])) → HR ρ g h w → c.wpIn (FK r) 0 P (CQ P ρ N n0 r g h w k) a w
def exN (x : Ex) (n : NT → Hp → Bool) (k : Ex → NT → Hp → Bool) (F : NT) (h : Hp) : Bool := Ex.rec (motive := fun _ => Bool) (n F h) (fun i => k (.exit i) F h) (k .ret F h) x
def ccSkip : Cc := ⟨fun _ F h k => k .normal F h⟩
def ccExit (id : Nat) : Cc := ⟨fun _ F h k => k (.exit id) F h⟩
def ccRet : Cc := ⟨fun _ F h k => k .ret F h⟩
def ccNo : Cc := ⟨fun _ _ _ _ => false⟩
theorem ccSkip_ok : Cc.ok R P ρ N .skip ccSkip := fun ch F h k g a w r n0 _ _ _ e hF hd hr => wpIn_skip ⟨.normal, F, g, h, rfl, Step.refl hr, hF, hd, e⟩
theorem ccLabel_ok {l : Nat} : Cc.ok R P ρ N (.label l) ccSkip := fun ch F h k g a w r n0 _ _ _ e hF hd hr => wpIn_label ⟨.normal, F, g, h, rfl, Step.refl hr, hF, hd, e⟩
theorem ccExit_ok {id : Nat} : Cc.ok R P ρ N (.exit id) (ccExit id) := fun ch F h k g a w r n0 _ _ _ e hF hd hr => wpIn_exit ⟨.exit id, F, g, h, rfl, Step.refl hr, hF, hd, e⟩
theorem ccRet_ok : Cc.ok R P ρ N .ret ccRet := fun ch F h k g a w r n0 _ _ _ e hF hd hr => wpIn_ret ⟨.ret, F, g, h, rfl, Step.refl hr, hF, hd, e⟩
theorem ccNo_ok {c : Code} : Cc.ok R P ρ N c ccNo := fun ch F h k g a w r n0 _ _ _ e => Bool.noConfusion e
def seqK (y : Cc) (ch : CH) (k : Ex → NT → Hp → Bool) (x : Ex) (F : NT) (h : Hp) : Bool := tall (Ex.rec (motive := fun _ => Bool) (y.run ch F h k) (fun i => k (.exit i) F h) (k .ret F h) x)
def seqR (x y : Cc) (ch : CH) (F : NT) (h : Hp) (k : Ex → NT → Hp → Bool) : Bool := tall (x.run ch F h (seqK y ch k))
def ccSeq (x y : Cc) : Cc := ⟨seqR x y⟩
theorem ccSeq_ok {c d : Code} {x y : Cc} (hx : Cc.ok R P ρ N c x) (hy : Cc.ok R P ρ N d y) : Cc.ok R P ρ N (.seq c d) (ccSeq x y) := fun ch F h k g a w r n0 hR hch hn0 e hF hd hr => by
  refine wpIn_seq (wpIn_mono (hx ch F h (seqK y ch k) g a w r n0 hR hch hn0 e hF hd hr) fun e' a' w' q => ?_)
  obtain ⟨z, F', g', h', rfl, s, f, d', hk⟩ := q
  cases z with
  | normal => exact wpIn_mono (hy ch F' h' k g' a' w' r n0 hR hch (Nat.le_trans hn0 s.size) hk f d' s.hr) fun _ _ _ q => q.later s
  | exit i => exact ⟨.exit i, F', g', h', rfl, s, f, d', hk⟩
  | ret => exact ⟨.ret, F', g', h', rfl, s, f, d', hk⟩
def condR (r : Rd) (x y : Cc) (ch : CH) (F : NT) (h : Hp) (k : Ex → NT → Hp → Bool) : Bool := (r.get F).boolKT (x.run ch F h k) (y.run ch F h k)
def ccCond (o : Operand) (x y : Cc) : Cc := ⟨condR (rdOf o) x y⟩
theorem ccCond_ok {o : Operand} {c d : Code} {x y : Cc} (hx : Cc.ok R P ρ N c x) (hy : Cc.ok R P ρ N d y) : Cc.ok R P ρ N (.cond o c d) (ccCond o x y) := fun ch F h k g a w r n0 hR hch hn0 e hF hd hr => by
  have hv := rdOf_ok hF o
  rcases AV.boolK_true (v := (rdOf o).get F) ((AV.boolKT_eq _ _ _).symm.trans e) with ⟨e1, e⟩ | ⟨e1, e⟩
  · rw [e1] at hv
    generalize hav : a.eval o = v at hv
    cases hv
    exact wpIn_cond (t := true) hav (hx ch F h k g a w r n0 hR hch hn0 e hF hd hr)
  · rw [e1] at hv
    generalize hav : a.eval o = v at hv
    cases hv
    exact wpIn_cond (t := false) hav (hy ch F h k g a w r n0 hR hch hn0 e hF hd hr)
def blockK (id : Nat) (k : Ex → NT → Hp → Bool) (x : Ex) (F : NT) (h : Hp) : Bool := tall (Ex.rec (motive := fun _ => Bool) (k .normal F h) (fun i => selT (Nat.beq i id) (k .normal F h) (k (.exit i) F h)) (k .ret F h) x)
def blockR (id : Nat) (x : Cc) (ch : CH) (F : NT) (h : Hp) (k : Ex → NT → Hp → Bool) : Bool := tall (x.run ch F h (blockK id k))
def ccBlock (id : Nat) (x : Cc) : Cc := ⟨blockR id x⟩
theorem ccBlock_ok {id : Nat} {c : Code} {x : Cc} (hx : Cc.ok R P ρ N c x) : Cc.ok R P ρ N (.block id c) (ccBlock id x) := fun ch F h k g a w r n0 hR hch hn0 e hF hd hr => by
  refine wpIn_block (wpIn_mono (hx ch F h (blockK id k) g a w r n0 hR hch hn0 e hF hd hr) fun e' a' w' q => ?_)
  obtain ⟨z, F', g', h', rfl, s, f, d', hk⟩ := q
  cases z with
  | normal => exact ⟨.normal, F', g', h', rfl, s, f, d', hk⟩
  | exit i =>
    rcases sel_true (show sel (Nat.beq i id) (k .normal F' h') (k (.exit i) F' h') = true from hk) with ⟨e1, hk⟩ | ⟨e1, hk⟩
    · show if i = id then _ else _
      rw [if_pos (beq_true e1)]
      exact ⟨.normal, F', g', h', rfl, s, f, d', hk⟩
    · show if i = id then _ else _
      rw [if_neg (beq_false e1)]
      exact ⟨.exit i, F', g', h', rfl, s, f, d', hk⟩
  | ret => exact ⟨.ret, F', g', h', rfl, s, f, d', hk⟩
def loopK (ih : NT → Hp → Bool) (k : Ex → NT → Hp → Bool) (x : Ex) (F : NT) (h : Hp) : Bool := tall (Ex.rec (motive := fun _ => Bool) (ih F h) (fun i => k (.exit i) F h) (k .ret F h) x)
def loop1 (x : Cc) (ch : CH) (k : Ex → NT → Hp → Bool) (_ : Nat) (ih : NT → Hp → Bool) (F : NT) (h : Hp) : Bool := tall (x.run ch F h (loopK ih k))
def loopN (x : Cc) (ch : CH) (k : Ex → NT → Hp → Bool) (n : Nat) : NT → Hp → Bool := Nat.rec (motive := fun _ => NT → Hp → Bool) (fun _ _ => false) (loop1 x ch k) n
def loopR (x : Cc) (ch : CH) (F : NT) (h : Hp) (k : Ex → NT → Hp → Bool) : Bool := tall (loopN x ch k (nat_lit 1000000) F h)
def ccLoop (x : Cc) : Cc := ⟨loopR x⟩
theorem loopN_ok {c : Code} {x : Cc} (hx : Cc.ok R P ρ N c x) {ch : CH} {k : Ex → NT → Hp → Bool} {g0 : G} {h0 : Hp} {w0 : World} {r : Option Nat} {n0 : Nat} (hR : R r) (hch : CHok P ρ ch) (hn0 : n0 ≤ w0.heap.size) (b : Frame) (kk : List Item) (cs : List Frame) (hro : b.roundOf = (FK r).round) :
    ∀ (n : Nat) (F : NT) (h : Hp) (g : G) (a : Act) (w : World), loopN x ch k n F h = true → Step ρ g0 h0 w0 g h w → FR ρ g N F a.tmps → (Mks P n0 g h w a.defers ∧ (r ≠ none → a.defers = [])) →
      ∃ e a' w', CQ P ρ N n0 r g0 h0 w0 k e a' w' ∧ ArrivesIn (Machine.fenced P (FK r)) P (lone (b.atR a (.code c :: .inLoop c :: kk)) cs w) b kk cs e a' w'
  | 0, F, h, g, a, w, e, _, _, _ => Bool.noConfusion (show false = true from e)
  | n + 1, F, h, g, a, w, e, s, hF, hd => by
    obtain ⟨e1, a1, w1, hq, harr⟩ := hx ch F h (loopK (loopN x ch k n) k) g a w r n0 hR hch (Nat.le_trans hn0 s.size) e hF hd s.hr b (.inLoop c :: kk) cs hro trivial (FK.room r _)
    obtain ⟨z, F', g', h', rfl, s', f, d', hk⟩ := hq
    cases z with
    | normal =>
      obtain ⟨e2, a2, w2, hq2, harr2⟩ := loopN_ok hx hR hch hn0 b kk cs hro n F' h' g' a1 w1 hk (s.trans s') f d'
      exact ⟨e2, a2, w2, hq2, .of_steps (StepsIn.trans harr (.one (FK.fenced r _) stepR_inLoop)) harr2⟩
    | exit i => exact ⟨_, a1, w1, ⟨.exit i, F', g', h', rfl, s.trans s', f, d', hk⟩, .pass (x := .inLoop c) rfl (fun _ _ => .inl (fun h => Exit.noConfusion h)) harr⟩
    | ret => exact ⟨_, a1, w1, ⟨.ret, F', g', h', rfl, s.trans s', f, d', hk⟩, .pass (x := .inLoop c) rfl (fun _ _ => .inl (fun h => Exit.noConfusion h)) harr⟩
theorem ccLoop_ok {c : Code} {x : Cc} (hx : Cc.ok R P ρ N c x) : Cc.ok R P ρ N (.loop c) (ccLoop x) := fun ch F h k g a w r n0 hR hch hn0 e hF hd hr b kk cs hro _ _ => by
  obtain ⟨e1, a1, w1, hq, harr⟩ := loopN_ok hx (g0 := g) (h0 := h) (w0 := w) (k := k) hR hch hn0 b kk cs hro 1000000 F h g a w e (Step.refl hr) hF hd
  exact ⟨e1, a1, w1, hq, .of_steps (.one (FK.fenced r _) stepR_loop) harr⟩
def regR (r : Rg) (ch : CH) (F : NT) (h : Hp) (k : Ex → NT → Hp → Bool) : Bool := tall (r.run ch F h (k .normal))
def ccReg (r : Rg) : Cc := ⟨regR r⟩
theorem ccReg_ok {id : Nat} {ops : Array Oper} {rg : Rg} (hr : Rg.ok P ρ N ops (List.range ops.size) rg) : Cc.ok R P ρ N (.region id ops false) (ccReg rg) := fun ch F h k g a w r n0 _ hch hn0 e hF hd hR =>
  wpIn_region (hr ch F h (k .normal) g a w _ hch e hF hR (fun F' g' h' a' w' s f d hk => ⟨.normal, F', g', h', rfl, s, f, by rw [d]; exact ⟨Mks.step s hd.1, hd.2⟩, hk⟩) r)
end
end Ev
end Go.Proofs.YticoibkgeejkoaaGreatDoor
namespace Go.Proofs.YticoibkgeejkoaaGreatDoor
namespace Ev
set_option linter.unusedVariables false
noncomputable section
variable {ρ : Nat → Value} {P : Program}
def args1 (ih : Nat → NT → (NT → Bool) → Bool) (t : Nat) (k : NT → Bool) (F : NT) : Bool := tall (ih (Nat.succ t) F k)
def args0 (a : AV) (_ : List AV) (ih : Nat → NT → (NT → Bool) → Bool) (t : Nat) (F : NT) (k : NT → Bool) : Bool := tall (bothT (Nat.ble (Nat.succ t) (nat_lit 256)) ((plOf t).set (args1 ih t k) F a))
def argsK (l : List AV) (t : Nat) (F : NT) (k : NT → Bool) : Bool := tall (List.rec (motive := fun _ => Nat → NT → (NT → Bool) → Bool) (fun _ F k => k F) args0 l t F k)
theorem argsK_true : ∀ {l : List AV} {t : Nat} {F : NT} {k : NT → Bool}, argsK l t F k = true → ∃ F', k F' = true ∧ ∀ p q : D, tget p q F' = if t ≤ 16 * p.num + q.num ∧ 16 * p.num + q.num < t + l.length then l.getD (16 * p.num + q.num - t) .undef else tget p q F
  | [], t, F, k, e => ⟨F, e, fun p q => by rw [if_neg (by simp)]⟩
  | a :: l, t, F, k, e => by
    obtain ⟨e1, e⟩ := both_true (show both (Nat.ble (Nat.succ t) 256) ((plOf t).set (args1 (argsK l) t k) F a) = true from e)
    have ht : t < 256 := ble_true e1
    obtain ⟨F1, e, g1, g2⟩ := tset_true e
    obtain ⟨F', e, g3⟩ := argsK_true (l := l) (show argsK l (t + 1) F1 k = true from e)
    refine ⟨F', e, fun p q => ?_⟩
    rw [g3]
    by_cases h1 : t + 1 ≤ 16 * p.num + q.num ∧ 16 * p.num + q.num < t + 1 + l.length
    · rw [if_pos h1, if_pos (by simp only [List.length_cons]; omega)]
      rw [show 16 * p.num + q.num - t = (16 * p.num + q.num - (t + 1)) + 1 from by omega]
      rfl
    · rw [if_neg h1]
      have hpl := plOf_num ht
      by_cases h2 : 16 * p.num + q.num = t
      · have k1 := D.num_lt p; have k2 := D.num_lt q; have k3 := D.num_lt (plOf t).p; have k4 := D.num_lt (plOf t).q
        have hp : p = (plOf t).p := D.num_inj (by omega)
        have hq : q = (plOf t).q := D.num_inj (by omega)
        rw [if_pos (by simp only [List.length_cons]; omega), h2, Nat.sub_self]
        rw [hp, hq, g1]
        rfl
      · rw [if_neg (by simp only [List.length_cons]; omega)]
        refine g2 p q ?_
        by_cases hp : p = (plOf t).p
        · refine .inr fun hq => h2 ?_
          rw [hp, hq, hpl]
        · exact .inl hp
structure Rs where
  run : NT → Hp → (AV → Hp → Bool) → Bool
def Rs.ok (P : Program) (ρ : Nat → Value) (N : Nat) (fn : Func) (rs : Rs) : Prop := ∀ (F : NT) (h : Hp) (k : AV → Hp → Bool) (g : G) (tm : Array Value) (w : World), rs.run F h k = true → FR ρ g N F tm → HR ρ g h w →
  ∃ v av, (results fn tm).run P w = .ok v w ∧ VR ρ g av v ∧ k av h = true
def rds0 (r : Rd) (_ : List Rd) (ih : NT → List AV) (F : NT) : List AV := r.get F :: ih F
def rdsK (l : List Rd) (F : NT) : List AV := List.rec (motive := fun _ => NT → List AV) (fun _ => []) rds0 l F
theorem rdsK_ok {g : G} {N : Nat} {F : NT} {a : Act} (e : FR ρ g N F a.tmps) : ∀ (l : List Operand), VRs ρ g (rdsK (l.map rdOf) F) (l.map a.eval)
  | [] => .nil
  | o :: l => .cons _ _ _ _ (rdOf_ok e o) (rdsK_ok e l)
structure Fc where
  run : CH → List AV → Hp → (AV → Hp → Bool) → Bool
def Fc.ok (P : Program) (ρ : Nat → Value) (f : Nat) (fc : Fc) : Prop := ∀ (ch : CH) (la : List AV) (args : Array Value) (g : G) (h : Hp) (w : World) (c : AV → Hp → Bool), CHok P ρ ch → fc.run ch la h c = true → VRs ρ g la args.toList → HR ρ g h w →
  Calls P f args w fun e w' => ∃ v, e = .returned v ∧ ∃ a g' h', Step ρ g h w g' h' w' ∧ VR ρ g' a v ∧ c a h' = true
def fnRet (rs : Rs) (k : AV → Hp → Bool) (x : Ex) (F : NT) (h : Hp) : Bool := tall (Ex.rec (motive := fun _ => Bool) (rs.run F h k) (fun _ => false) (rs.run F h k) x)
def fn1 (cc : Cc) (rs : Rs) (ch : CH) (h : Hp) (k : AV → Hp → Bool) (F : NT) : Bool := tall (cc.run ch F h (fnRet rs k))
def fnR (cc : Cc) (rs : Rs) (ch : CH) (la : List AV) (h : Hp) (k : AV → Hp → Bool) : Bool := tall (argsK la (nat_lit 0) tnone (fn1 cc rs ch h k))
theorem leaves_marks {fn : Func} {tm : Array Value} {R : Ending → World → Prop} {n0 : Nat} {g : G} {h : Hp} {g0 : G} {h0 : Hp} {w0 : World} (hn0 : n0 = w0.heap.size) : ∀ (ds : List Deferred) (w : World), Mks P n0 g h w ds → Step ρ g0 h0 w0 g h w →
    (∀ w', Step ρ g0 h0 w0 g h w' → ∃ v, (results fn tm).run P w' = .ok v w' ∧ R (.returned v) w') → LeavesInM (FK none) 0 P fn tm R ds .returning w
  | [], w, _, s, hR => hR w s
  | d :: ds, w, ⟨⟨D, h1, h2, h3, h4, h5⟩, h6⟩, s, hR => by
    subst h1
    have hlt : D < w.heap.size := (Array.getElem?_eq_some_iff.1 h3).1
    have hoth : ∀ b, b ≠ D → (w.heap.setIfInBounds D (.deferred none))[b]? = w.heap[b]? := fun b hb => by rw [Array.getElem?_setIfInBounds_ne (Ne.symm hb)]
    have hne : ∀ l b c, g.blk l = some (b, c) → h.get l ≠ .none → b ≠ D := fun l b c hb hn e => by subst e; exact hn (h4 l c hb)
    have hr' : HR ρ g h { w with heap := w.heap.setIfInBounds D (.deferred none) } := by
      refine ⟨fun l b c hb => ?_, s.hr.inj, fun l b c hb => by show b < (w.heap.setIfInBounds D (.deferred none)).size; rw [Array.size_setIfInBounds]; exact s.hr.lt _ _ _ hb, s.hr.nx⟩
      by_cases hz : h.get l = .none
      · rw [hz]; trivial
      · exact OR.mono (hoth b (hne l b c hb hz)) g.le_refl rfl (s.hr.ob l b c hb)
    have hs : Step ρ g0 h0 w0 g h { w with heap := w.heap.setIfInBounds D (.deferred none) } :=
      ⟨s.le, hr', s.os, s.tape, s.output, by show w0.heap.size ≤ (w.heap.setIfInBounds D (.deferred none)).size; rw [Array.size_setIfInBounds]; exact s.size, fun b hb hf => by
        obtain ⟨a1, a2⟩ := s.fr b hb hf
        exact ⟨(hoth b (by omega)).trans a1, a2⟩, s.nx, s.un, s.fl, s.ke⟩
    refine ⟨by simp, .inl ⟨D, { w with heap := w.heap.setIfInBounds D (.deferred none) }, rfl, ?_, leaves_marks hn0 ds _ ?_ hs hR⟩⟩
    · simp [Instr.takeDeferred, getObj, setObj, Sem.run_bind, Sem.run, h3, Result.andThen]
    · have : ∀ {ds : List Deferred}, (∀ d' ∈ ds, d'.target ≠ .collected D) → Mks P n0 g h w ds → Mks P n0 g h { w with heap := w.heap.setIfInBounds D (.deferred none) } ds := fun {ds} => by
        induction ds with
        | nil => exact fun _ _ => trivial
        | cons d' ds ih =>
          intro hd ⟨⟨D', e1, e2, e3, e4, e5⟩, e6⟩
          have hD : D' ≠ D := fun e => hd d' List.mem_cons_self (by rw [e1, e])
          exact ⟨⟨D', e1, e2, (hoth D' hD).trans e3, e4, e5⟩, ih (fun d'' hd'' => hd d'' (List.mem_cons_of_mem _ hd'')) e6⟩
      exact this h5 h6
theorem fnR_ok {f : Nat} {fn : Func} {c : Code} {cc : Cc} {rs : Rs} (hf : P.funcs[f]? = some fn) (hb : fn.body = some c) (hc : Cc.ok (fun r => r = none) P ρ fn.ntmps c cc) (hs : Rs.ok P ρ fn.ntmps fn rs) : Fc.ok P ρ f ⟨fnR cc rs⟩ := fun ch la args g h w k hch e hv hr => by
  obtain ⟨F, e, gF⟩ := argsK_true (l := la) e
  have gF : ∀ p q : D, tget p q F = if 0 ≤ 16 * p.num + q.num ∧ 16 * p.num + q.num < 0 + la.length then la.getD (16 * p.num + q.num - 0) .undef else tget p q tnone := gF
  have hlen := VRs.length hv
  have hFR : FR ρ g fn.ntmps F (args ++ Array.replicate (fn.ntmps - args.size) undef) := by
    refine ⟨by simp; omega, fun p q => ?_⟩
    rw [gF]
    by_cases hlt : 16 * p.num + q.num < la.length
    · rw [if_pos (by omega), Nat.sub_zero]
      obtain ⟨v, v1, v2⟩ := VRs.get hv (16 * p.num + q.num) la[16 * p.num + q.num] (List.getElem?_eq_getElem hlt)
      rw [List.getD_eq_getElem?_getD, List.getElem?_eq_getElem hlt]
      rw [Array.getElem?_toList] at v1
      have hsz := (Array.getElem?_eq_some_iff.1 v1).1
      rw [Array.getD_eq_getD_getElem?, Array.getElem?_append_left hsz, v1]
      exact v2
    · rw [if_neg (by omega), tget_none]
      exact .undef _
  have fin : ∀ (x : Ex) (F' : NT) (g' : G) (h' : Hp) (a' : Act) (w' : World), Step ρ g h w g' h' w' → FR ρ g' fn.ntmps F' a'.tmps → Mks P w.heap.size g' h' w' a'.defers → rs.run F' h' k = true →
      LeavesInM (FK none) 0 P fn a'.tmps (fun e w' => ∃ v, e = .returned v ∧ ∃ a g' h', Step ρ g h w g' h' w' ∧ VR ρ g' a v ∧ k a h' = true) a'.defers .returning w' := fun x F' g' h' a' w' s hF' hd hk => by
    refine leaves_marks rfl a'.defers w' hd s fun w2 s2 => ?_
    obtain ⟨v, av, r1, r2, r3⟩ := hs F' h' k g' a'.tmps w2 hk hF' s2.hr
    exact ⟨v, r1, v, rfl, av, g', h', s2, r2, r3⟩
  refine callsIn_wide.1 (callsIn_of_wp_marks (F := FK none) (n := 0) hf hb trivial (wpIn_mono (hc ch F h (fnRet rs k) g _ w none w.heap.size rfl hch (Nat.le_refl _) e hFR ⟨trivial, fun _ => rfl⟩ hr) fun e' a' w' q => ?_))
  obtain ⟨x, F', g', h', rfl, s, hF', ⟨hd, _⟩, hk⟩ := q
  cases x with
  | normal => exact fin .normal F' g' h' a' w' s hF' hd hk
  | exit i => exact Bool.noConfusion (show false = true from hk)
  | ret => exact fin .ret F' g' h' a' w' s hF' hd hk
def fcNo : Fc := ⟨fun _ _ _ _ => false⟩
theorem fcNo_ok {f : Nat} : Fc.ok P ρ f fcNo := fun ch la args g h w c _ e => Bool.noConfusion e
structure Yc where
  run : CH → List AV → Hp → (AV → Hp → Bool) → Bool
def Yc.ok (P : Program) (ρ : Nat → Value) (y : Yc) : Prop := ∀ (ch : CH) (l : L) (b : Nat) (la : List AV) (args : Array Value) (g : G) (h : Hp) (w : World) (c : AV → Hp → Bool), CHok P ρ ch → y.run ch (.yl l :: la) h c = true → g.blk l = some (b, 0) → VRs ρ g la args.toList → HR ρ g h w →
  Rnd P b args w fun v w' => ∃ a g' h', Step ρ g h w g' h' w' ∧ VR ρ g' a v ∧ c a h' = true
def call0 (y : Yc) (tab : Nat → Fc) (_ : Nat) (ih : CH) (f : Nat) (la : List AV) (h : Hp) (c : AV → Hp → Bool) : Bool := sel (Nat.beq f YL) (y.run ih la h c) ((tab f).run ih la h c)
def callF (y : Yc) (tab : Nat → Fc) (n : Nat) : CH := Nat.rec (motive := fun _ => CH) (fun _ _ _ _ => false) (call0 y tab) n
theorem callF_ok {y : Yc} {tab : Nat → Fc} (hy : Yc.ok P ρ y) (ht : ∀ f, Fc.ok P ρ f (tab f)) : ∀ n, CHok P ρ (callF y tab n)
  | 0 => ⟨fun f la args g h w c _ _ e => Bool.noConfusion (show false = true from e), fun l b la args g h w c e => Bool.noConfusion (show false = true from e)⟩
  | n + 1 => ⟨fun f la args g h w c hf hy' e hv hr => by
      rcases sel_true (show sel (Nat.beq f YL) (y.run (callF y tab n) la h c) ((tab f).run (callF y tab n) la h c) = true from e) with ⟨e1, e⟩ | ⟨e1, e⟩
      · exact absurd (beq_true e1) hy'
      · exact ht f (callF y tab n) la args g h w c (callF_ok hy ht n) e hv hr, fun l b la args g h w c e hb hv hr => by
      rcases sel_true (show sel (Nat.beq YL YL) (y.run (callF y tab n) (.yl l :: la) h c) ((tab YL).run (callF y tab n) (.yl l :: la) h c) = true from e) with ⟨e1, e⟩ | ⟨e1, e⟩
      · exact hy (callF y tab n) l b la args g h w c (callF_ok hy ht n) e hb hv hr
      · exact absurd rfl (beq_false e1)⟩
end
end Ev
end Go.Proofs.YticoibkgeejkoaaGreatDoor
namespace Go.Proofs.YticoibkgeejkoaaGreatDoor
namespace Ev
set_option linter.unusedVariables false
noncomputable section
variable {ρ : Nat → Value} {P : Program} {N : Nat}
structure Ti extends TypeInfo where
  eqd : Bool
instance : Coe Ti TypeInfo := ⟨Ti.toTypeInfo⟩
structure Ty where
  und : TypeDesc
  info : Ti
structure TTok (P : Program) (T : Nat → Option Ty) : Prop where
  fn : ∀ t y, T t = some y → P.underlying t = some y.und ∧ P.info? t = some y.info.toTypeInfo
  eq : ∀ t y, T t = some y → y.info.eqd = true → P.stoodInHeld t = false ∧ P.eqGuardType P.depth t = false
instance {P : Program} {T : Nat → Option Ty} : CoeFun (TTok P T) (fun _ => ∀ t y, T t = some y → P.underlying t = some y.und ∧ P.info? t = some y.info.toTypeInfo) := ⟨TTok.fn⟩
def tyOf (P : Program) (t : Nat) : Option Ty := match P.underlying t, P.info? t with
  | some d, some i => some ⟨d, { i with eqd := Bool.rec (motive := fun _ => Bool) (Bool.rec (motive := fun _ => Bool) true false (P.eqGuardType P.depth t)) false (P.stoodInHeld t) }⟩
  | _, _ => none
theorem tyOf_ok (P : Program) : TTok P (tyOf P) := by
  have key : ∀ t y, tyOf P t = some y → ∃ d i, P.underlying t = some d ∧ P.info? t = some i ∧ y = ⟨d, { i with eqd := Bool.rec (motive := fun _ => Bool) (Bool.rec (motive := fun _ => Bool) true false (P.eqGuardType P.depth t)) false (P.stoodInHeld t) }⟩ := fun t y h => by
    unfold tyOf at h
    split at h
    · rename_i d i h1 h2
      cases h
      exact ⟨d, i, h1, h2, rfl⟩
    · cases h
  refine ⟨fun t y h => ?_, fun t y h e => ?_⟩
  · obtain ⟨d, i, h1, h2, rfl⟩ := key t y h
    exact ⟨h1, h2⟩
  · obtain ⟨d, i, h1, h2, rfl⟩ := key t y h
    have e : (Bool.rec (motive := fun _ => Bool) (Bool.rec (motive := fun _ => Bool) true false (P.eqGuardType P.depth t)) false (P.stoodInHeld t) : Bool) = true := e
    cases h3 : P.stoodInHeld t with
    | true => rw [h3] at e; exact Bool.noConfusion (show false = true from e)
    | false =>
      rw [h3] at e
      cases h4 : P.eqGuardType P.depth t with
      | true => rw [h4] at e; exact Bool.noConfusion (show false = true from e)
      | false => exact ⟨rfl, rfl⟩
def nthO {α : Type} (n : Nat) (l : List α) : Option α := Nat.rec (motive := fun _ => List α → Option α) (fun l => List.rec (motive := fun _ => Option α) none (fun a _ _ => some a) l) (fun _ ih l => List.rec (motive := fun _ => Option α) none (fun _ r _ => ih r) l) n l
theorem nthO_eq {α : Type} : ∀ (n : Nat) (l : List α), nthO n l = l[n]?
  | 0, [] => rfl
  | 0, _ :: _ => rfl
  | _ + 1, [] => rfl
  | n + 1, _ :: l => (nthO_eq n l).trans (by simp)
def infoL (P : Program) (L : List TypeInfo) (t : Nat) : Option TypeInfo := match nthO t L with
  | some i => some i
  | none => P.info? t
def undL (P : Program) (L : List TypeInfo) (t : Nat) : Option TypeDesc := match infoL P L t with
  | some i => (match i.desc with
    | .named _ u => (infoL P L u).map (·.desc)
    | _ => some i.desc)
  | none => none
def tyF (P : Program) (t : Nat) : Option Ty := match undL P P.types.toList t, infoL P P.types.toList t with
  | some d, some i => some ⟨d, { i with eqd := Bool.rec (motive := fun _ => Bool) (Bool.rec (motive := fun _ => Bool) true false (P.eqGuardType P.depth t)) false (P.stoodInHeld t) }⟩
  | _, _ => none
theorem tyF_eq (P : Program) : tyF P = tyOf P := by
  have h : ∀ t : Nat, infoL P P.types.toList t = P.info? t := fun t => by
    unfold infoL
    rw [nthO_eq, Array.getElem?_toList]
    cases e : P.types[t]? with
    | none => rfl
    | some i =>
      have hlt := (Array.getElem?_eq_some_iff.1 e).1
      show some i = Tables.info? _ t
      unfold Tables.info?
      rw [if_pos hlt]
      exact e.symm
  have h2 : ∀ t : Nat, undL P P.types.toList t = P.underlying t := fun t => by
    unfold undL Program.underlying
    simp only [h]
    cases P.info? t with
    | none => rfl
    | some i => obtain ⟨d⟩ := i; cases d <;> rfl
  funext t
  unfold tyF tyOf
  rw [h2, h]
theorem tyF_ok (P : Program) : TTok P (tyF P) := by rw [tyF_eq]; exact tyOf_ok P
def fnsOf (P : Program) (f : Nat) : Option Func := P.funcs[f]?
def isAggD : TypeDesc → Bool
  | .struct _ => true
  | .array _ _ => true
  | _ => false
theorem run_isAggD {t : TypeId} {d : TypeDesc} (h : P.underlying t = some d) (w : World) : (isAgg t).run P w = .ok (isAggD d) w := by
  cases d <;> simp [isAgg, run_underlying h, isAggD, Sem.run_bind, Result.andThen]
structure Rv where
  run : NT → Hp → (AV → Hp → Bool) → Bool
def rvSem (tm : Array Value) : ResultVar → Sem Value
  | .tmp t => pure (tm.getD t undef)
  | .cell a t => do loadVar t (← asAddr (tm.getD a undef))
def Rv.ok (P : Program) (ρ : Nat → Value) (N : Nat) (r : ResultVar) (rv : Rv) : Prop := ∀ (F : NT) (h : Hp) (k : AV → Hp → Bool) (g : G) (tm : Array Value) (w : World), rv.run F h k = true → FR ρ g N F tm → HR ρ g h w →
  ∃ v av, (rvSem tm r).run P w = .ok v w ∧ VR ρ g av v ∧ k av h = true
def rvT (r : Rd) (F : NT) (h : Hp) (k : AV → Hp → Bool) : Bool := tall (k (r.get F) h)
def rvL (r : Rd) (F : NT) (h : Hp) (k : AV → Hp → Bool) : Bool := tall (aLoad1 (r.get F) h k)
def rvM (n : Nat) (r : Rd) (F : NT) (h : Hp) (k : AV → Hp → Bool) : Bool := tall (aLoadN n (r.get F) h k)
def rvOf (T : Nat → Option Ty) : ResultVar → Rv
  | .tmp t => ⟨rvT (rdOf (.tmp t))⟩
  | .cell a t => match T t with
    | none => ⟨fun _ _ _ => false⟩
    | some y => match isAggD y.und with
      | true => ⟨rvM y.info.size (rdOf (.tmp a))⟩
      | false => ⟨rvL (rdOf (.tmp a))⟩
theorem rv_load {g : G} {h : Hp} {w : World} {tm : Array Value} {a : Nat} {t : TypeId} {av : AV} {k : AV → Hp → Bool} (hp : ∃ l o, av = .ptr l o) (hv : VR ρ g av (tm.getD a undef)) (e : Pur P ρ g h w (Instr.loadAt t (tm.getD a undef)) k) :
    ∃ v av, (rvSem tm (.cell a t)).run P w = .ok v w ∧ VR ρ g av v ∧ k av h = true := by
  obtain ⟨l, o, rfl⟩ := hp
  obtain ⟨b, b0, hb, hq⟩ := hv.inv_ptr
  obtain ⟨a', v, h1, h2, h3⟩ := e
  refine ⟨v, a', ?_, h2, h3⟩
  rw [hq] at h1
  show (Sem.run P (do loadVar t (← asAddr (tm.getD a undef))) w) = _
  rw [hq]
  simpa [Instr.loadAt, Instr.sureAddr, asAddr, Sem.run_bind, Result.andThen_ok, Result.andThen] using h1
theorem rvOf_ok {T : Nat → Option Ty} (hT : TTok P T) (r : ResultVar) : Rv.ok P ρ N r (rvOf T r) := fun F h k g tm w e hF hr => by
  cases r with
  | tmp t =>
    have := rdOf_ok (a := ⟨tm, []⟩) hF (.tmp t)
    exact ⟨_, _, rfl, this, e⟩
  | cell a t =>
    have hv := rdOf_ok (a := ⟨tm, []⟩) hF (.tmp a)
    have hv : VR ρ g ((rdOf (.tmp a)).get F) (tm.getD a undef) := hv
    unfold rvOf at e
    dsimp only at e
    split at e
    · exact Bool.noConfusion (show false = true from e)
    · rename_i y hy
      obtain ⟨h1, h2⟩ := hT _ _ hy
      split at e
      · rename_i hb
        obtain ⟨l, o, hp, _⟩ := AV.ptrK_true (show aLoadN y.info.size ((rdOf (.tmp a)).get F) h k = true from e)
        exact rv_load ⟨l, o, hp⟩ hv (aLoadN_ok (by rw [run_isAggD h1, hb]) h2 rfl e hv hr)
      · rename_i hb
        obtain ⟨l, o, hp, _⟩ := AV.ptrK_true (show aLoad1 ((rdOf (.tmp a)).get F) h k = true from e)
        exact rv_load ⟨l, o, hp⟩ hv (aLoad1_ok (by rw [run_isAggD h1, hb]) e hv hr)
def rvs1 (k : List AV → Hp → Bool) (a : AV) (m : List AV) (h : Hp) : Bool := k (a :: m) h
def rvs2 (ih : NT → Hp → (List AV → Hp → Bool) → Bool) (F : NT) (k : List AV → Hp → Bool) (a : AV) (h : Hp) : Bool := tall (ih F h (rvs1 k a))
def rvs0 (r : Rv) (_ : List Rv) (ih : NT → Hp → (List AV → Hp → Bool) → Bool) (F : NT) (h : Hp) (k : List AV → Hp → Bool) : Bool := tall (r.run F h (rvs2 ih F k))
def rvsK (l : List Rv) (F : NT) (h : Hp) (k : List AV → Hp → Bool) : Bool := tall (List.rec (motive := fun _ => NT → Hp → (List AV → Hp → Bool) → Bool) (fun _ h k => k [] h) rvs0 l F h k)
theorem rvsK_ok {T : Nat → Option Ty} (hT : TTok P T) {F : NT} {h : Hp} {g : G} {tm : Array Value} {w : World} (hF : FR ρ g N F tm) (hr : HR ρ g h w) : ∀ (l : List ResultVar) (k : List AV → Hp → Bool), rvsK (l.map (rvOf T)) F h k = true →
    ∃ vs la, (l.mapM (rvSem tm)).run P w = .ok vs w ∧ VRs ρ g la vs ∧ vs.length = l.length ∧ k la h = true
  | [], k, e => ⟨[], [], rfl, .nil, rfl, e⟩
  | r :: l, k, e => by
    obtain ⟨v, a, h1, h2, e⟩ := rvOf_ok hT r F h (rvs2 (rvsK (l.map (rvOf T))) F k) g tm w e hF hr
    obtain ⟨vs, la, h3, h4, h5, e⟩ := rvsK_ok hT hF hr l (rvs1 k a) e
    refine ⟨v :: vs, a :: la, ?_, .cons _ _ _ _ h2 h4, by simp [h5], e⟩
    rw [List.mapM_cons]
    simp only [Sem.run_bind, h1, h3, Result.andThen_ok, Sem.run_pure]
def rsT (k : AV → Hp → Bool) (m : List AV) (h : Hp) : Bool := k (.tup m) h
def rs1 (r : Rv) (F : NT) (h : Hp) (k : AV → Hp → Bool) : Bool := tall (r.run F h k)
def rsN (l : List Rv) (F : NT) (h : Hp) (k : AV → Hp → Bool) : Bool := tall (rvsK l F h (rsT k))
def rsOf (T : Nat → Option Ty) : List ResultVar → Rs
  | [r] => ⟨rs1 (rvOf T r)⟩
  | l => ⟨rsN (l.map (rvOf T))⟩
theorem run_results {fn : Func} {tm : Array Value} {w w' : World} {vs : List Value} (h : (fn.results.toList.mapM (rvSem tm)).run P w = .ok vs w') :
    (results fn tm).run P w = .ok (if h : vs.toArray.size = 1 then vs.toArray[0] else .tuple vs.toArray) w' := by
  have hf : ∀ (f : ResultVar → Sem Value), (∀ r, f r = rvSem tm r) → ∀ l : List ResultVar, l.mapM f = l.mapM (rvSem tm) := fun f hf l => by rw [show f = rvSem tm from funext hf]
  have he : fn.results = fn.results.toList.toArray := rfl
  unfold results
  rw [he, List.mapM_toArray, hf _ (fun r => by cases r <;> rfl)]
  simp only [map_pure, pure_bind, Sem.run_bind, Sem.run_map, h]
  first | rfl | simp [Result.andThen]
theorem rsOf_ok {T : Nat → Option Ty} (hT : TTok P T) {fn : Func} : Rs.ok P ρ N fn (rsOf T fn.results.toList) := fun F h k g tm w e hF hr => by
  unfold rsOf at e
  split at e
  · rename_i r hl
    obtain ⟨v, a, h1, h2, e⟩ := rvOf_ok hT r F h k g tm w e hF hr
    refine ⟨v, a, ?_, h2, e⟩
    have : (fn.results.toList.mapM (rvSem tm)).run P w = .ok [v] w := by
      rw [hl, List.mapM_cons]
      simp [Sem.run_bind, h1, Result.andThen]
    rw [run_results this]
    rfl
  · rename_i hne
    obtain ⟨vs, la, h1, h2, h3, e⟩ := rvsK_ok hT hF hr fn.results.toList (rsT k) e
    refine ⟨_, .tup la, run_results h1, ?_, e⟩
    rw [dif_neg (by
      simp only [List.size_toArray]
      intro h4
      obtain ⟨r, hr'⟩ := List.length_eq_one_iff.1 (h3.symm.trans h4)
      exact hne r hr')]
    exact .tup _ _ h2
def clNo : Cl := ⟨fun _ _ _ _ => false⟩
theorem clNo_ok {o : Oper} : Cl.ok P ρ N o clNo := fun ch F h c g a w _ e => Bool.noConfusion (show false = true from e)
theorem Did.pur {g : G} {h : Hp} {w : World} {o : Oper} {a : Act} {c : AV → Hp → Bool} {s : Sem Value} (hr : HR ρ g h w) (ho : execOp a.eval o = (do pure (.value (← s)))) (e : Pur P ρ g h w s c) : Did P ρ g h w o a c := Did.val ho (Pur.eff hr e)
def moveR (r : Rd) (_ : CH) (F : NT) (h : Hp) (c : AV → Hp → Bool) : Bool := tall (c (r.get F) h)
theorem clMove_ok {o : Oper} {x : Operand} (ho : o.op = .move x ∨ o.op = .assign x) : Cl.ok P ρ N o ⟨moveR (rdOf x)⟩ := fun ch F h c g a w _ e hF hr =>
  Did.pur (s := pure (a.eval x)) hr (by rcases ho with ho | ho <;> simp [execOp, ho]) ⟨_, _, rfl, rdOf_ok hF x, e⟩
def pickR (b x y : Rd) (_ : CH) (F : NT) (h : Hp) (c : AV → Hp → Bool) : Bool := tall (aPick (b.get F) (x.get F) (y.get F) h c)
theorem clPick_ok {o : Oper} {b x y : Operand} (ho : o.op = .pick b x y) : Cl.ok P ρ N o ⟨pickR (rdOf b) (rdOf x) (rdOf y)⟩ := fun ch F h c g a w _ e hF hr =>
  Did.pur hr (by simp [execOp, ho]) (aPick_ok e (rdOf_ok hF b) (rdOf_ok hF x) (rdOf_ok hF y))
def load1R (r : Rd) (_ : CH) (F : NT) (h : Hp) (c : AV → Hp → Bool) : Bool := tall (aLoad1 (r.get F) h c)
def loadNR (k : Nat) (r : Rd) (_ : CH) (F : NT) (h : Hp) (c : AV → Hp → Bool) : Bool := tall (aLoadN k (r.get F) h c)
def clLoad (T : Nat → Option Ty) (t : Nat) (r : Rd) : Cl := match T t with
  | none => clNo
  | some y => match isAggD y.und with
    | true => ⟨loadNR y.info.size r⟩
    | false => ⟨load1R r⟩
theorem clLoad_ok {T : Nat → Option Ty} (hT : TTok P T) {o : Oper} {t : TypeId} {x : Operand} (ho : o.op = .load t x) : Cl.ok P ρ N o (clLoad T t (rdOf x)) := fun ch F h c g a w _ e hF hr => by
  unfold clLoad at e
  split at e
  · exact Bool.noConfusion e
  · rename_i y hy
    obtain ⟨h1, h2⟩ := hT _ _ hy
    split at e
    · rename_i hb
      exact Did.pur (s := Instr.loadAt t (a.eval x)) hr (by simp [execOp, ho]) (aLoadN_ok (by rw [run_isAggD h1, hb]) h2 rfl e (rdOf_ok hF x) hr)
    · rename_i hb
      exact Did.pur (s := Instr.loadAt t (a.eval x)) hr (by simp [execOp, ho]) (aLoad1_ok (by rw [run_isAggD h1, hb]) e (rdOf_ok hF x) hr)
def store1R (r v : Rd) (_ : CH) (F : NT) (h : Hp) (c : AV → Hp → Bool) : Bool := tall (aStore1 (r.get F) (v.get F) h c)
def storeNR (k : Nat) (r v : Rd) (_ : CH) (F : NT) (h : Hp) (c : AV → Hp → Bool) : Bool := tall (aStoreN k (r.get F) (v.get F) h c)
def clStore (T : Nat → Option Ty) (t : Nat) (r v : Rd) : Cl := match T t with
  | none => clNo
  | some y => match isAggD y.und with
    | true => ⟨storeNR y.info.size r v⟩
    | false => match h : Nat.beq y.info.size 1 with
      | true => ⟨store1R r v⟩
      | false => clNo
theorem clStore_ok (hρ : ∀ i, (ρ i).oneCell = true) {T : Nat → Option Ty} (hT : TTok P T) {o : Oper} {t : TypeId} {x v : Operand} (ho : o.op = .store t x v) : Cl.ok P ρ N o (clStore T t (rdOf x) (rdOf v)) := fun ch F h c g a w _ e hF hr => by
  unfold clStore at e
  split at e
  · exact Bool.noConfusion e
  · rename_i y hy
    obtain ⟨h1, h2⟩ := hT _ _ hy
    split at e
    · exact Did.unit (by simp [execOp, ho]) (aStoreN_ok h2 rfl e (rdOf_ok hF x) (rdOf_ok hF v) hr)
    · split at e
      · rename_i hb
        exact Did.unit (by simp [execOp, ho]) (aStore1_ok hρ h2 (beq_true hb) e (rdOf_ok hF x) (rdOf_ok hF v) hr)
      · exact Bool.noConfusion e
def boxR (r : Rd) (_ : CH) (F : NT) (h : Hp) (c : AV → Hp → Bool) : Bool := tall (aBox (r.get F) h c)
theorem clBox_ok (hρ : ∀ i, (ρ i).oneCell = true) {o : Oper} {t : TypeId} {x : Operand} (ho : o.op = .box t x) : Cl.ok P ρ N o ⟨boxR (rdOf x)⟩ := fun ch F h c g a w _ e hF hr =>
  Did.val (s := Instr.box t (a.eval x)) (by simp [execOp, ho]) (aBox_ok hρ e (rdOf_ok hF x) hr)
def nilR (r : Rd) (_ : CH) (F : NT) (h : Hp) (c : AV → Hp → Bool) : Bool := tall (aNil (r.get F) h c)
theorem clNil_ok {o : Oper} {x : Operand} (ho : o.op = .nilCheck x) : Cl.ok P ρ N o ⟨nilR (rdOf x)⟩ := fun ch F h c g a w _ e hF hr K hn => by
  obtain ⟨h1, h2⟩ := aNil_ok (P := P) (w := w) e (rdOf_ok hF x)
  have he : execOp a.eval o = ckNil P (a.eval x) := by rw [execOp, ho]; rfl
  rw [he, h1]
  exact hn _ _ _ _ _ (Step.refl hr) (rdOf_ok hF x) h2
def extractR (i : Nat) (r : Rd) (_ : CH) (F : NT) (h : Hp) (c : AV → Hp → Bool) : Bool := tall (aExtractT i (r.get F) h c)
theorem clExtract_ok {o : Oper} {x : Operand} {i : Nat} (ho : o.op = .extract x i) : Cl.ok P ρ N o ⟨extractR i (rdOf x)⟩ := fun ch F h c g a w _ e hF hr =>
  Did.pur hr (by simp [execOp, ho]) (aExtract_ok ((aExtractT_eq _ _ _ _).symm.trans e) (rdOf_ok hF x))
def fieldAR (off : Nat) (r : Rd) (_ : CH) (F : NT) (h : Hp) (c : AV → Hp → Bool) : Bool := tall (aField off (r.get F) h c)
def clFieldA (T : Nat → Option Ty) (s f : Nat) (r : Rd) : Cl := match T s with
  | some ⟨.struct fs, _⟩ => match fs[f]? with
    | some fd => match T fd.type with
      | some y => match Nat.ble 1 y.info.size with
        | true => ⟨fieldAR fd.offset r⟩
        | false => clNo
      | none => clNo
    | none => clNo
  | _ => clNo
theorem clFieldA_ok {T : Nat → Option Ty} (hT : TTok P T) {o : Oper} {s : TypeId} {f : Nat} {x : Operand} (ho : o.op = .fieldAddr s x f) : Cl.ok P ρ N o (clFieldA T s f (rdOf x)) := fun ch F h c g a w _ e hF hr => by
  unfold clFieldA at e
  split at e
  · rename_i fs i hs
    split at e
    · rename_i fd hfd
      split at e
      · rename_i y hy
        split at e
        · rename_i hb
          have hb : 1 ≤ y.info.size := Nat.le_of_ble_eq_true hb
          exact Did.pur hr (by simp [execOp, ho]) (aField_ok (hT _ _ hs).1 hfd (hT _ _ hy).2 (by omega) e (rdOf_ok hF x))
        · exact Bool.noConfusion e
      · exact Bool.noConfusion e
    · exact Bool.noConfusion e
  · exact Bool.noConfusion e
def indexSR (z : Nat) (r i : Rd) (_ : CH) (F : NT) (h : Hp) (c : AV → Hp → Bool) : Bool := tall (aIndexS z (r.get F) (i.get F) h c)
def indexAR (z n : Nat) (r i : Rd) (_ : CH) (F : NT) (h : Hp) (c : AV → Hp → Bool) : Bool := tall (aIndexA z n (r.get F) (i.get F) h c)
def clIndexA (T : Nat → Option Ty) (t : Nat) (r i : Rd) : Cl := match T t with
  | some ⟨.slice el, _⟩ => match T el with
    | some y => ⟨indexSR y.info.size r i⟩
    | none => clNo
  | some ⟨.array n el, _⟩ => match T el with
    | some y => ⟨indexAR y.info.size n r i⟩
    | none => clNo
  | _ => clNo
theorem clIndexA_ok {T : Nat → Option Ty} (hT : TTok P T) {o : Oper} {t : TypeId} {x y : Operand} (ho : o.op = .indexAddr t x y) : Cl.ok P ρ N o (clIndexA T t (rdOf x) (rdOf y)) := fun ch F h c g a w _ e hF hr => by
  unfold clIndexA at e
  split at e
  · rename_i el i hs
    split at e
    · rename_i ty hy
      exact Did.pur hr (by simp [execOp, ho]) (aIndexS_ok (hT _ _ hs).1 (hT _ _ hy).2 e (rdOf_ok hF x) (rdOf_ok hF y))
    · exact Bool.noConfusion e
  · rename_i n el i hs
    split at e
    · rename_i ty hy
      exact Did.pur hr (by simp [execOp, ho]) (aIndexA_ok (hT _ _ hs).1 (hT _ _ hy).2 e (rdOf_ok hF x) (rdOf_ok hF y))
    · exact Bool.noConfusion e
  · exact Bool.noConfusion e
def bin1R (f : Nat → Nat → AV) (x y : Rd) (_ : CH) (F : NT) (h : Hp) (c : AV → Hp → Bool) : Bool := tall (aI2 f (x.get F) (y.get F) h c)
def binKR (f : IntKind → Int → Int → AV) (x y : Rd) (_ : CH) (F : NT) (h : Hp) (c : AV → Hp → Bool) : Bool := tall (aInt2 f (x.get F) (y.get F) h c)
theorem bin1_ok {f : Nat → Nat → AV} {o : Oper} {op : BinOp} {t yt : TypeId} {x y : Operand} (hf : Is2 P op f) (ho : o.op = .binOp op t x y yt) : Cl.ok P ρ N o ⟨bin1R f (rdOf x) (rdOf y)⟩ := fun ch F h c g a w _ e hF hr =>
  Did.pur hr (by simp [execOp, ho]) (aI2_ok (t := t) (ox := x) (oy := y) hf e (rdOf_ok hF x) (rdOf_ok hF y))
theorem binK_ok {f : IntKind → Int → Int → AV} {o : Oper} {op : BinOp} {t yt : TypeId} {x y : Operand} (hf : IsK P op f) (ho : o.op = .binOp op t x y yt) : Cl.ok P ρ N o ⟨binKR f (rdOf x) (rdOf y)⟩ := fun ch F h c g a w _ e hF hr =>
  Did.pur hr (by simp [execOp, ho]) (aInt2_ok (t := t) (ox := x) (oy := y) hf e (rdOf_ok hF x) (rdOf_ok hF y))
def callR (f : Nat) (l : List Rd) (ch : CH) (F : NT) (h : Hp) (c : AV → Hp → Bool) : Bool := tall (ch f (rdsK l F) h c)
structure Fe extends Func where
  fc : Option Fc
structure FsT where
  get : Nat → Option Fe
  dyn : Nat
instance : CoeFun FsT (fun _ => Nat → Option Fe) := ⟨FsT.get⟩
def bitD (m g : Nat) : Bool := Nat.beq (Nat.mod (Nat.div m (Nat.pow (nat_lit 2) g)) (nat_lit 2)) (nat_lit 1)
structure FTok (P : Program) (ρ : Nat → Value) (Fs : FsT) : Prop where
  fn : ∀ f fn, Fs f = some fn → P.funcs[f]? = some fn.toFunc ∧ ∀ fc, fn.fc = some fc → Fc.ok P ρ f fc
  dy : ∀ g, bitD Fs.dyn g = true → (∀ (args : Array Value) (w : World), (callFunc g args).run P w = .ok (.enter g args) w) ∧ P.funcs[g]? ≠ none ∧ g ≠ YL
instance {P : Program} {ρ : Nat → Value} {Fs : FsT} : CoeFun (FTok P ρ Fs) (fun _ => ∀ f fn, Fs f = some fn → P.funcs[f]? = some fn.toFunc ∧ ∀ fc, fn.fc = some fc → Fc.ok P ρ f fc) := ⟨FTok.fn⟩
def callS (fc : Fc) (l : List Rd) (ch : CH) (F : NT) (h : Hp) (c : AV → Hp → Bool) : Bool := tall (fc.run ch (rdsK l F) h c)
def clCall (Fs : FsT) (f : Nat) (l : List Rd) : Cl := match Fs f with
  | none => clNo
  | some fn => match fn.name == "runtime.NumGoroutine", fn.body, Nat.beq f YL with
    | false, some _, false => match fn.fc with
      | none => ⟨callR f l⟩
      | some fc => ⟨callS fc l⟩
    | _, _, _ => clNo
theorem run_callFunc {f : Nat} {fn : Func} {args : Array Value} {w : World} (hf : P.funcs[f]? = some fn) (hn : (fn.name == "runtime.NumGoroutine") = false) (hb : fn.body.isNone = false) : (callFunc f args).run P w = .ok (.enter f args) w := by
  have hn' : ¬ fn.name = "runtime.NumGoroutine" := by simpa using hn
  have hb' : ¬ fn.body = none := by intro h; rw [h] at hb; cases hb
  simp [callFunc, Sem.run_bind, hf, hn', hb', program, Sem.run, Result.andThen]
theorem clCall_ok {Fs : FsT} (hFs : FTok P ρ Fs) {o : Oper} {f : Nat} {xs : Array Operand} {ats : Array TypeId} (ho : o.op = .call { callee := .value (.func f), args := xs, argTypes := ats }) : Cl.ok P ρ N o (clCall Fs f (xs.toList.map rdOf)) := fun ch F h c g a w hch e hF hr => by
  unfold clCall at e
  split at e
  · exact Bool.noConfusion e
  · rename_i fn hfn
    split at e
    · rename_i bd hnm hbd hyl
      have hv := rdsK_ok hF xs.toList
      have he : execOp a.eval o = callFunc f (#[] ++ xs.map a.eval ++ #[]) := by
        obtain ⟨dst, op, ty, pos, after, guard⟩ := o
        simp only at ho
        subst ho
        rfl
      have hrun : (execOp a.eval o).run P w = .ok (.enter f (#[] ++ xs.map a.eval ++ #[])) w := by rw [he]; exact run_callFunc (hFs _ _ hfn).1 hnm (by rw [hbd]; rfl)
      split at e
      · refine Did.call (args := #[] ++ xs.map a.eval ++ #[]) hrun (hch.1 f _ _ g h w c (by rw [(hFs _ _ hfn).1]; simp) (beq_false hyl) e ?_ hr)
        simpa using hv
      · rename_i fc hfc
        refine Did.call (args := #[] ++ xs.map a.eval ++ #[]) hrun ((hFs _ _ hfn).2 fc hfc ch _ _ g h w c hch e ?_ hr)
        simpa using hv
    · exact Bool.noConfusion e
end
end Ev
end Go.Proofs.YticoibkgeejkoaaGreatDoor
namespace Go.Proofs.YticoibkgeejkoaaGreatDoor
namespace Ev
set_option linter.unusedVariables false
noncomputable section
variable {ρ : Nat → Value} {P : Program} {N : Nat}
theorem exec_builtin {a : Act} {o : Oper} {b : Builtin} {xs : Array Operand} {ats : Array TypeId} (ho : o.op = .call { callee := .builtin b, args := xs, argTypes := ats }) :
    execOp a.eval o = builtin b ats o.type (xs.map fun | .const _ => true | _ => false) (xs.map a.eval) := by
  obtain ⟨dst, op, ty, pos, after, guard⟩ := o
  simp only at ho
  subst ho
  rfl
def lenSR (r : Rd) (_ : CH) (F : NT) (h : Hp) (c : AV → Hp → Bool) : Bool := tall (aLenS (r.get F) h c)
def lenLR (r : Rd) (_ : CH) (F : NT) (h : Hp) (c : AV → Hp → Bool) : Bool := tall (aLenL (r.get F) h c)
def clLen (T : Nat → Option Ty) : List Operand → List Nat → Cl
  | [x], [t] => match T t with
    | some ⟨.string, _⟩ => ⟨lenSR (rdOf x)⟩
    | some ⟨.slice _, _⟩ => ⟨lenLR (rdOf x)⟩
    | _ => clNo
  | _, _ => clNo
theorem clLen_ok {T : Nat → Option Ty} (hT : TTok P T) {o : Oper} {xs : Array Operand} {ats : Array TypeId} (ho : o.op = .call { callee := .builtin .len, args := xs, argTypes := ats }) : Cl.ok P ρ N o (clLen T xs.toList ats.toList) := fun ch F h c g a w _ e hF hr => by
  have he := exec_builtin (a := a) ho
  unfold clLen at e
  split at e
  · rename_i l1 l2 x t hx ht
    have hx : xs = #[x] := by rw [← Array.toArray_toList (xs := xs), hx]
    have ht : ats = #[t] := by rw [← Array.toArray_toList (xs := ats), ht]
    subst hx; subst ht
    split at e
    · rename_i i hs
      exact Did.pur (s := Builtin.len_ #[t] o.type #[a.eval x]) hr (by rw [he, show (#[x].map a.eval) = #[a.eval x] from by simp]; rfl) (aLenS_ok (hT _ _ hs).1 e (rdOf_ok hF x))
    · rename_i el i hs
      exact Did.pur (s := Builtin.len_ #[t] o.type #[a.eval x]) hr (by rw [he, show (#[x].map a.eval) = #[a.eval x] from by simp]; rfl) (aLenL_ok (hT _ _ hs).1 e (rdOf_ok hF x))
    · exact Bool.noConfusion (show false = true from e)
  · exact Bool.noConfusion (show false = true from e)
def capR (r : Rd) (_ : CH) (F : NT) (h : Hp) (c : AV → Hp → Bool) : Bool := tall (aCapL (r.get F) h c)
def clCap (T : Nat → Option Ty) : List Operand → List Nat → Cl
  | [x], [t] => match T t with
    | some ⟨.slice _, _⟩ => ⟨capR (rdOf x)⟩
    | _ => clNo
  | _, _ => clNo
theorem clCap_ok {T : Nat → Option Ty} (hT : TTok P T) {o : Oper} {xs : Array Operand} {ats : Array TypeId} (ho : o.op = .call { callee := .builtin .cap, args := xs, argTypes := ats }) : Cl.ok P ρ N o (clCap T xs.toList ats.toList) := fun ch F h c g a w _ e hF hr => by
  have he := exec_builtin (a := a) ho
  unfold clCap at e
  split at e
  · rename_i l1 l2 x t hx ht
    have hx : xs = #[x] := by rw [← Array.toArray_toList (xs := xs), hx]
    have ht : ats = #[t] := by rw [← Array.toArray_toList (xs := ats), ht]
    subst hx; subst ht
    split at e
    · rename_i el i hs
      exact Did.pur (s := Builtin.cap_ #[t] o.type #[a.eval x]) hr (by rw [he, show (#[x].map a.eval) = #[a.eval x] from by simp]; rfl) (aCapL_ok (hT _ _ hs).1 e (rdOf_ok hF x))
    · exact Bool.noConfusion (show false = true from e)
  · exact Bool.noConfusion (show false = true from e)
def appendR (z b : Nat) (x y : Rd) (_ : CH) (F : NT) (h : Hp) (c : AV → Hp → Bool) : Bool := tall (aAppend z b (x.get F) (y.get F) h c)
def zeroFits (i : TypeInfo) : Bool := match i.zero with
  | none => false
  | some z => Nat.beq z.cells.size i.size && z.cells.toList.all Value.oneCell
theorem zeroFits_true {i : TypeInfo} (h : zeroFits i = true) : ∃ z, i.zero = some z ∧ z.cells.size = i.size ∧ ∀ v ∈ z.cells.toList, v.oneCell = true := by
  unfold zeroFits at h
  split at h
  · cases h
  · rename_i z hz
    rw [Bool.and_eq_true, List.all_eq_true] at h
    exact ⟨z, hz, Nat.eq_of_beq_eq_true h.1, h.2⟩
def clAppend (T : Nat → Option Ty) : List Operand → List Nat → Cl
  | [x, y], [t, u] => match T t, T u with
    | some ⟨.slice el, _⟩, some ⟨.slice _, _⟩ => match T el with
      | some ty => match zeroFits ty.info with
        | true => ⟨appendR ty.info.size ty.info.bytes (rdOf x) (rdOf y)⟩
        | false => clNo
      | none => clNo
    | _, _ => clNo
  | _, _ => clNo
theorem clAppend_ok {T : Nat → Option Ty} (hT : TTok P T) {o : Oper} {xs : Array Operand} {ats : Array TypeId} (ho : o.op = .call { callee := .builtin .append, args := xs, argTypes := ats }) : Cl.ok P ρ N o (clAppend T xs.toList ats.toList) := fun ch F h c g a w _ e hF hr => by
  have he := exec_builtin (a := a) ho
  unfold clAppend at e
  split at e
  · rename_i l1 l2 x y t u hx ht
    have hx : xs = #[x, y] := by rw [← Array.toArray_toList (xs := xs), hx]
    have ht : ats = #[t, u] := by rw [← Array.toArray_toList (xs := ats), ht]
    subst hx; subst ht
    split at e
    · rename_i el i e' i' hs hu
      split at e
      · rename_i ty hy
        split at e
        · rename_i hz
          obtain ⟨z, z1, z2, z3⟩ := zeroFits_true hz
          exact Did.val (s := Builtin.append_ #[t, u] o.type #[a.eval x, a.eval y]) (by rw [he, show (#[x, y].map a.eval) = #[a.eval x, a.eval y] from by simp]; rfl) (aAppend_ok (hT _ _ hs).1 (hT _ _ hy).2 z1 (hT _ _ hu).1 z2 z3 hr (rdOf_ok hF x) (rdOf_ok hF y) e)
        · exact Bool.noConfusion (show false = true from e)
      · exact Bool.noConfusion (show false = true from e)
    · exact Bool.noConfusion (show false = true from e)
  · exact Bool.noConfusion (show false = true from e)
end
end Ev
end Go.Proofs.YticoibkgeejkoaaGreatDoor
namespace Go.Proofs.YticoibkgeejkoaaGreatDoor
namespace Ev
set_option linter.unusedVariables false
noncomputable section
variable {ρ : Nat → Value} {P : Program} {N : Nat}
def two (f : AV → AV → Hp → (AV → Hp → Bool) → Bool) (x y : Rd) (_ : CH) (F : NT) (h : Hp) (c : AV → Hp → Bool) : Bool := tall (f (x.get F) (y.get F) h c)
def oneR (f : AV → Hp → (AV → Hp → Bool) → Bool) (x : Rd) (_ : CH) (F : NT) (h : Hp) (c : AV → Hp → Bool) : Bool := tall (f (x.get F) h c)
def clEq (T : Nat → Option Ty) (neg : Bool) (t : Nat) (x y : Operand) : Cl := match T t with
  | some ⟨.string, _⟩ => ⟨two (aEqS neg) (rdOf x) (rdOf y)⟩
  | some ⟨.bool, _⟩ => ⟨two (aEqB neg) (rdOf x) (rdOf y)⟩
  | some ⟨.slice _, _⟩ => ⟨two (aEqL neg) (rdOf x) (rdOf y)⟩
  | some ⟨.map _ _, _⟩ => ⟨two (aEqM neg) (rdOf x) (rdOf y)⟩
  | some ⟨.func _ _ _, _⟩ => ⟨two (aEqF neg) (rdOf x) (rdOf y)⟩
  | some ⟨.pointer el, _⟩ => match T el with
    | some ty => match Nat.ble 1 ty.info.size with
      | true => ⟨two (aEqP neg) (rdOf x) (rdOf y)⟩
      | false => clNo
    | none => clNo
  | some ⟨.interface _, _⟩ => match isC x || isC y with
    | true => ⟨two (aEqI neg) (rdOf x) (rdOf y)⟩
    | false => clNo
  | _ => clNo
theorem clEq_ok {T : Nat → Option Ty} (hT : TTok P T) {neg : Bool} {o : Oper} {op : BinOp} {t yt : TypeId} {x y : Operand} (hop : op = if neg then .neq else .eql) (ho : o.op = .binOp op t x y yt) : Cl.ok P ρ N o (clEq T neg t x y) := fun ch F h c g a w _ e hF hr => by
  subst hop
  have key : ∀ {c' : AV → Hp → Bool}, Pur P ρ g h w (do eqGuard (if neg then .neq else .eql) t x y (a.eval x) (a.eval y); binOp (if neg then .neq else .eql) t (a.eval x) (a.eval y)) c' → Did P ρ g h w o a c' := fun p => Did.pur hr (by simp [execOp, ho]) p
  unfold clEq at e
  split at e
  · exact key (aEqS_ok e (rdOf_ok hF x) (rdOf_ok hF y))
  · rename_i i hs; exact key (aEqB_ok (hT _ _ hs).1 e (rdOf_ok hF x) (rdOf_ok hF y))
  · rename_i el i hs; exact key (aEqL_ok (hT _ _ hs).1 e (rdOf_ok hF x) (rdOf_ok hF y))
  · rename_i kt el i hs; exact key (aEqM_ok (hT _ _ hs).1 e (rdOf_ok hF x) (rdOf_ok hF y))
  · rename_i ps rs v i hs; exact key (aEqF_ok (hT _ _ hs).1 e (rdOf_ok hF x) (rdOf_ok hF y))
  · rename_i el i hs
    split at e
    · rename_i ty hy
      split at e
      · rename_i hb
        have hb : 1 ≤ ty.info.size := Nat.le_of_ble_eq_true hb
        exact key (aEqP_ok (hT _ _ hs).1 (hT _ _ hy).2 (by omega) e (rdOf_ok hF x) (rdOf_ok hF y))
      · exact Bool.noConfusion (show false = true from e)
    · exact Bool.noConfusion (show false = true from e)
  · rename_i ms i hs
    split at e
    · rename_i hb
      exact key (aEqI_ok (hT _ _ hs).1 (by simpa using hb) e (rdOf_ok hF x) (rdOf_ok hF y))
    · exact Bool.noConfusion (show false = true from e)
  · exact Bool.noConfusion (show false = true from e)
def clAddS (x y : Operand) : Cl := ⟨two aAddS (rdOf x) (rdOf y)⟩
theorem clAddS_ok {o : Oper} {t yt : TypeId} {x y : Operand} (ho : o.op = .binOp .add t x y yt) : Cl.ok P ρ N o (clAddS x y) := fun ch F h c g a w _ e hF hr =>
  Did.pur hr (by simp [execOp, ho]) (aAddS_ok (t := t) (ox := x) (oy := y) e (rdOf_ok hF x) (rdOf_ok hF y))
theorem clQuo_ok {o : Oper} {t yt : TypeId} {x y : Operand} (ho : o.op = .binOp .quo t x y yt) : Cl.ok P ρ N o ⟨two aQuo (rdOf x) (rdOf y)⟩ := fun ch F h c g a w _ e hF hr =>
  Did.pur hr (by simp [execOp, ho]) (aQuo_ok (t := t) (ox := x) (oy := y) e (rdOf_ok hF x) (rdOf_ok hF y))
theorem clRem_ok {o : Oper} {t yt : TypeId} {x y : Operand} (ho : o.op = .binOp .rem t x y yt) : Cl.ok P ρ N o ⟨two aRem (rdOf x) (rdOf y)⟩ := fun ch F h c g a w _ e hF hr =>
  Did.pur hr (by simp [execOp, ho]) (aRem_ok (t := t) (ox := x) (oy := y) e (rdOf_ok hF x) (rdOf_ok hF y))
theorem clShl_ok {o : Oper} {t yt : TypeId} {x y : Operand} (ho : o.op = .binOp .shl t x y yt) : Cl.ok P ρ N o ⟨two aShl (rdOf x) (rdOf y)⟩ := fun ch F h c g a w _ e hF hr =>
  Did.pur hr (by simp [execOp, ho]) (aShl_ok (t := t) (ox := x) (oy := y) e (rdOf_ok hF x) (rdOf_ok hF y))
theorem clShr_ok {o : Oper} {t yt : TypeId} {x y : Operand} (ho : o.op = .binOp .shr t x y yt) : Cl.ok P ρ N o ⟨two aShr (rdOf x) (rdOf y)⟩ := fun ch F h c g a w _ e hF hr =>
  Did.pur hr (by simp [execOp, ho]) (aShr_ok (t := t) (ox := x) (oy := y) e (rdOf_ok hF x) (rdOf_ok hF y))
def clUn (op : UnOp) (x : Operand) : Cl := match op with
  | .not => ⟨oneR aNot (rdOf x)⟩
  | .neg => ⟨oneR aNeg (rdOf x)⟩
  | _ => clNo
theorem clUn_ok {o : Oper} {op : UnOp} {t : TypeId} {x : Operand} (ho : o.op = .unOp op t x) : Cl.ok P ρ N o (clUn op x) := fun ch F h c g a w _ e hF hr => by
  cases op with
  | not => exact Did.pur (s := Op.unary .not (a.eval x)) hr (by simp [execOp, ho]) (aNot_ok e (rdOf_ok hF x))
  | neg => exact Did.pur (s := Op.unary .neg (a.eval x)) hr (by simp [execOp, ho]) (aNeg_ok e (rdOf_ok hF x))
  | _ => exact Bool.noConfusion (show false = true from e)
def clConv (T : Nat → Option Ty) (s d : Nat) (x : Operand) : Cl := match T s, T d with
  | some _, some ⟨.int k, _⟩ => ⟨oneR (aConv k) (rdOf x)⟩
  | _, _ => clNo
theorem clConv_ok {T : Nat → Option Ty} (hT : TTok P T) {o : Oper} {s d : TypeId} {x : Operand} (ho : o.op = .convert s d x) : Cl.ok P ρ N o (clConv T s d x) := fun ch F h c g a w _ e hF hr => by
  unfold clConv at e
  split at e
  · rename_i y k i hs hd
    exact Did.pur (s := convert s d (a.eval x)) hr (by simp [execOp, ho]) (aConv_ok (hT _ _ hs).1 (hT _ _ hd).1 e (rdOf_ok hF x))
  · exact Bool.noConfusion (show false = true from e)
def clIface (T : Nat → Option Ty) (t : Nat) (x : Operand) : Cl := match T t with
  | some ⟨.interface _, _⟩ => clNo
  | some _ => ⟨oneR (aIface t) (rdOf x)⟩
  | none => clNo
theorem clIface_ok {T : Nat → Option Ty} (hT : TTok P T) {o : Oper} {t : TypeId} {x : Operand} (ho : o.op = .makeInterface t x) : Cl.ok P ρ N o (clIface T t x) := fun ch F h c g a w _ e hF hr => by
  unfold clIface at e
  split at e
  · exact Bool.noConfusion (show false = true from e)
  · rename_i y hn hs
    refine Did.pur (s := Instr.makeInterface t (a.eval x)) hr (by simp [execOp, ho]) (aIface_ok (hT _ _ hs).1 (fun ms hm => ?_) e (rdOf_ok hF x))
    obtain ⟨u, i⟩ := y
    simp only at hm
    subst hm
    exact hn ms i rfl
  · exact Bool.noConfusion (show false = true from e)
def funcR (f : Fn) (l m : List Rd) (_ : CH) (F : NT) (h : Hp) (c : AV → Hp → Bool) : Bool := tall (aFunc f (rdsK l F) (rdsK m F) h c)
theorem clFunc_ok {o : Oper} {f : Fn} {xs ys : Array Operand} (ho : o.op = .makeFunc f xs ys) : Cl.ok P ρ N o ⟨funcR f (xs.toList.map rdOf) (ys.toList.map rdOf)⟩ := fun ch F h c g a w _ e hF hr =>
  Did.pur (s := Instr.makeFunc f (xs.map a.eval) (ys.map a.eval)) hr (by simp [execOp, ho]) (aFunc_ok e (by simpa using rdsK_ok hF xs.toList) (by simpa using rdsK_ok hF ys.toList))
def mapR (_ : CH) (_ : NT) (h : Hp) (c : AV → Hp → Bool) : Bool := tall (aMap h c)
def clMap (T : Nat → Option Ty) (t : Nat) (r : Option Operand) : Cl := match r with
  | none => ⟨mapR⟩
  | some (.const (.int _ _)) => match T t with
    | some ⟨.map _ _, _⟩ => ⟨mapR⟩
    | _ => clNo
  | _ => clNo
theorem clMap_ok {T : Nat → Option Ty} (hT : TTok P T) {o : Oper} {t : TypeId} {r : Option Operand} (ho : o.op = .makeMap t r) : Cl.ok P ρ N o (clMap T t r) := fun ch F h c g a w _ e hF hr => by
  unfold clMap at e
  split at e
  · exact Did.val (s := Instr.makeMap t none) (by simp [execOp, ho]) (aMap_ok (.inl rfl) hr e)
  · rename_i k n
    split at e
    · rename_i kt el i hs
      exact Did.val (s := Instr.makeMap t (some (.int k n))) (by simp [execOp, ho, Act.eval]) (aMap_ok (.inr ⟨⟨kt, el, (hT _ _ hs).1⟩, k, n, rfl⟩) hr e)
    · exact Bool.noConfusion (show false = true from e)
  · exact Bool.noConfusion (show false = true from e)
def ofCells (z : Value) : List AV := z.cells.toList.map ofV
theorem ofCells_ok (z : Value) (g : G) : VRs ρ g (ofCells z) z.cells.toList := by
  unfold ofCells
  generalize z.cells.toList = l
  induction l with
  | nil => exact .nil
  | cons v l ih => exact .cons _ _ _ _ (ofV_ok g v) ih
def allocR (k : Nat) (la : List AV) (_ : CH) (_ : NT) (h : Hp) (c : AV → Hp → Bool) : Bool := tall (aVar k la h c)
def clAlloc (T : Nat → Option Ty) (t : Nat) : Cl := match T t with
  | none => clNo
  | some y => match y.info.zero, zeroFits y.info with
    | some z, true => ⟨allocR y.info.size (ofCells z)⟩
    | _, _ => clNo
theorem ofCells_len {z : Value} {n : Nat} (h : z.cells.size = n) : (ofCells z).length = n := by
  unfold ofCells; rw [List.length_map, Array.length_toList, h]
theorem zeroFits_some {i : TypeInfo} {z : Value} (h : zeroFits i = true) (hz : i.zero = some z) : z.cells.size = i.size ∧ ∀ v ∈ z.cells.toList, v.oneCell = true := by
  obtain ⟨z', z1, z2, z3⟩ := zeroFits_true h
  rw [hz] at z1
  cases z1
  exact ⟨z2, z3⟩
theorem clAlloc_ok {T : Nat → Option Ty} (hT : TTok P T) {o : Oper} {t : TypeId} (ho : o.op = .alloc t) : Cl.ok P ρ N o (clAlloc T t) := fun ch F h c g a w _ e hF hr => by
  unfold clAlloc at e
  split at e
  · exact Bool.noConfusion (show false = true from e)
  · rename_i y hy
    split at e
    · rename_i z hz hf
      obtain ⟨z2, z3⟩ := zeroFits_some hf hz
      exact Did.val (s := Instr.alloc t true (.tuple #[])) (by simp [execOp, ho]) (aAlloc_ok (hT _ _ hy).2 hz e (ofCells_len z2) (ofCells_ok z) z3 hr)
    · exact Bool.noConfusion (show false = true from e)
def clMakeS (T : Nat → Option Ty) (t : Nat) (x y : Operand) : Cl := match T t with
  | some ⟨.slice el, _⟩ => match T el with
    | none => clNo
    | some ty => match ty.info.zero, zeroFits ty.info with
      | some z, true => ⟨two (aMake ty.info.size ty.info.bytes (ofCells z)) (rdOf x) (rdOf y)⟩
      | _, _ => clNo
  | _ => clNo
theorem clMakeS_ok {T : Nat → Option Ty} (hT : TTok P T) {o : Oper} {t : TypeId} {x y : Operand} (ho : o.op = .makeSlice t x y) : Cl.ok P ρ N o (clMakeS T t x y) := fun ch F h c g a w _ e hF hr => by
  unfold clMakeS at e
  split at e
  · rename_i el i hs
    split at e
    · exact Bool.noConfusion (show false = true from e)
    · rename_i ty hy
      split at e
      · rename_i z hz hf
        obtain ⟨z2, z3⟩ := zeroFits_some hf hz
        exact Did.val (s := Instr.makeSlice t (a.eval x) (a.eval y)) (by simp [execOp, ho]) (aMake_ok (hT _ _ hs).1 (hT _ _ hy).2 hz (ofCells_ok z) z3 (ofCells_len z2) e (rdOf_ok hF x) (rdOf_ok hF y) hr)
      · exact Bool.noConfusion (show false = true from e)
  · exact Bool.noConfusion (show false = true from e)
def ogK (r : Option Rd) (F : NT) : Option AV := match r with
  | none => none
  | some r => some (r.get F)
theorem ogK_ok {g : G} {F : NT} {a : Act} (e : FR ρ g N F a.tmps) (o : Option Operand) : OVR ρ g (ogK (o.map rdOf) F) (o.map a.eval) := by
  cases o with
  | none => trivial
  | some o => exact rdOf_ok e o
def sliceTR (x : Rd) (lo hi : Option Rd) (_ : CH) (F : NT) (h : Hp) (c : AV → Hp → Bool) : Bool := tall (aSliceT (ogK lo F) (ogK hi F) (x.get F) h c)
def sliceLR (z : Nat) (x : Rd) (lo hi mx : Option Rd) (_ : CH) (F : NT) (h : Hp) (c : AV → Hp → Bool) : Bool := tall (aSliceL z (ogK lo F) (ogK hi F) (ogK mx F) (x.get F) h c)
def clSlice (T : Nat → Option Ty) (t : Nat) (x : Operand) (lo hi mx : Option Operand) : Cl := match T t with
  | some ⟨.string, _⟩ => match mx with
    | none => ⟨sliceTR (rdOf x) (lo.map rdOf) (hi.map rdOf)⟩
    | some _ => clNo
  | some ⟨.slice el, _⟩ => match T el with
    | none => clNo
    | some ty => match mx.isSome && hi.isNone with
      | true => clNo
      | false => ⟨sliceLR ty.info.size (rdOf x) (lo.map rdOf) (hi.map rdOf) (mx.map rdOf)⟩
  | _ => clNo
theorem clSlice_ok {T : Nat → Option Ty} (hT : TTok P T) {o : Oper} {t : TypeId} {x : Operand} {lo hi mx : Option Operand} (ho : o.op = .slice t x lo hi mx) : Cl.ok P ρ N o (clSlice T t x lo hi mx) := fun ch F h c g a w _ e hF hr => by
  unfold clSlice at e
  split at e
  · rename_i i hs
    split at e
    · exact Did.pur (s := Instr.sliceAt t (a.eval x) (lo.map a.eval) (hi.map a.eval) none) hr (by simp [execOp, ho]) (aSliceT_ok (hT _ _ hs).1 e (rdOf_ok hF x) (ogK_ok hF lo) (ogK_ok hF hi))
    · exact Bool.noConfusion (show false = true from e)
  · rename_i el i hs
    split at e
    · exact Bool.noConfusion (show false = true from e)
    · rename_i ty hy
      split at e
      · exact Bool.noConfusion (show false = true from e)
      · rename_i hb
        exact Did.pur (s := Instr.sliceAt t (a.eval x) (lo.map a.eval) (hi.map a.eval) (mx.map a.eval)) hr (by simp [execOp, ho]) (aSliceL_ok (hT _ _ hs).1 (hT _ _ hy).2 hr e (rdOf_ok hF x) (ogK_ok hF lo) (ogK_ok hF hi) (ogK_ok hF mx) (by
          cases mx <;> cases hi <;> simp at hb ⊢))
  · exact Bool.noConfusion (show false = true from e)
def clField (T : Nat → Option Ty) (t : Nat) (x : Operand) (f : Nat) : Cl := match T t with
  | some ⟨.struct fs, _⟩ => match fs[f]? with
    | none => clNo
    | some fd => match T fd.type with
      | none => clNo
      | some y => match isAggD y.und with
        | true => ⟨oneR (aPartN fd.offset y.info.size) (rdOf x)⟩
        | false => ⟨oneR (aPart1 fd.offset) (rdOf x)⟩
  | _ => clNo
theorem clField_ok {T : Nat → Option Ty} (hT : TTok P T) {o : Oper} {t : TypeId} {x : Operand} {f : Nat} (ho : o.op = .field t x f) : Cl.ok P ρ N o (clField T t x f) := fun ch F h c g a w _ e hF hr => by
  have hx : execOp a.eval o = (do pure (.value (← Instr.field t (a.eval x) f))) := by simp [execOp, ho]
  unfold clField at e
  split at e
  · rename_i fs i hs
    split at e
    · exact Bool.noConfusion (show false = true from e)
    · rename_i fd hfd
      have key : ∀ {c' : AV → Hp → Bool}, Pur P ρ g h w (do part fd.type (← asAgg (a.eval x)) fd.offset) c' → Did P ρ g h w o a c' := fun ⟨av, v, h1, h2, h3⟩ => Did.pur hr hx ⟨av, v, by
        simp only [Instr.field, Sem.run_bind, run_underlying (hT _ _ hs).1, Result.andThen_ok, hfd]
        simpa [Sem.run_bind] using h1, h2, h3⟩
      split at e
      · exact Bool.noConfusion (show false = true from e)
      · rename_i y hy
        split at e
        · rename_i hb; exact key (aPartN_ok (by rw [run_isAggD (hT _ _ hy).1, hb]) (hT _ _ hy).2 rfl e (rdOf_ok hF x))
        · rename_i hb; exact key (aPart1_ok (by rw [run_isAggD (hT _ _ hy).1, hb]) e (rdOf_ok hF x))
  · exact Bool.noConfusion (show false = true from e)
def clIndex (T : Nat → Option Ty) (t : Nat) (x y : Operand) : Cl := match T t with
  | some ⟨.string, _⟩ => ⟨two aIndexT (rdOf x) (rdOf y)⟩
  | _ => clNo
theorem clIndex_ok {T : Nat → Option Ty} (hT : TTok P T) {o : Oper} {t : TypeId} {x y : Operand} (ho : o.op = .index t x y) : Cl.ok P ρ N o (clIndex T t x y) := fun ch F h c g a w _ e hF hr => by
  unfold clIndex at e
  split at e
  · rename_i i hs
    exact Did.pur (s := Instr.index t (a.eval x) (a.eval y)) hr (by simp [execOp, ho]) (aIndexT_ok (hT _ _ hs).1 e (rdOf_ok hF x) (rdOf_ok hF y))
  · exact Bool.noConfusion (show false = true from e)
end
end Ev
end Go.Proofs.YticoibkgeejkoaaGreatDoor
namespace Go.Proofs.YticoibkgeejkoaaGreatDoor
namespace Ev
set_option linter.unusedVariables false
noncomputable section
variable {ρ : Nat → Value} {P : Program} {N : Nat}
def prOf (pl : Nat → Option (Nat × Nat)) : List (Nat × Operand) → Option (List ((Nat × Nat) × Rd))
  | [] => some []
  | (i, x) :: l => match pl i, prOf pl l with
    | some p, some r => some ((p, rdOf x) :: r)
    | _, _ => none
def prs0 (p : (Nat × Nat) × Rd) (_ : List ((Nat × Nat) × Rd)) (ih : NT → List ((Nat × Nat) × AV)) (F : NT) : List ((Nat × Nat) × AV) := (p.1, p.2.get F) :: ih F
def prsK (l : List ((Nat × Nat) × Rd)) (F : NT) : List ((Nat × Nat) × AV) := List.rec (motive := fun _ => NT → List ((Nat × Nat) × AV)) (fun _ => []) prs0 l F
theorem prOf_ok {g : G} {F : NT} {a : Act} (e : FR ρ g N F a.tmps) {pl : Nat → Option (Nat × Nat)} : ∀ {l : List (Nat × Operand)} {ps : List ((Nat × Nat) × Rd)}, prOf pl l = some ps → PVR ρ g pl (prsK ps F) (l.map fun x => (x.1, a.eval x.2))
  | [], ps, h => by cases h; trivial
  | (i, x) :: l, ps, h => by
    unfold prOf at h
    split at h
    · rename_i p r h1 h2
      cases h
      exact ⟨h1, rdOf_ok e x, prOf_ok e h2⟩
    · cases h
theorem aBuild_ok (hρ : ∀ i, (ρ i).oneCell = true) {g : G} {h : Hp} {w : World} {t : TypeId} {place : Nat → Option (Nat × Nat)} {z : Value} {k : Nat} {la : List AV} {ps : List ((Nat × Nat) × AV)} {vs : Array (Nat × Value)} {c : AV → Hp → Bool}
    (hb : ∀ cs, Instr.fill place z.cells vs.toList = some cs → P.built t vs.toList = some cs) (hl : la.length = k) (hv : VRs ρ g la z.cells.toList) (h1 : ∀ v ∈ z.cells.toList, v.oneCell = true) (hp : PVR ρ g place ps vs.toList)
    (e : aBuild k la ps h c = true) : Pur P ρ g h w (Instr.build t vs) c := by
  obtain ⟨la', cs', f1, f2, f3, f4, e⟩ := fillK_true hρ (show fillK ps la (fun l => c (.agg k l) h) = true from e) hp hv h1
  exact ⟨_, _, run_build w t vs cs' (hb _ f1), .agg k la' cs' f3 (by rw [f2, hl]) f4, e⟩
def plsOf (T : Nat → Option Ty) : List Field → Option (List (Nat × Nat))
  | [] => some []
  | f :: l => match T f.type, plsOf T l with
    | some y, some r => some ((f.offset, y.info.size) :: r)
    | _, _ => none
theorem plsOf_ok {T : Nat → Option Ty} (hT : TTok P T) : ∀ {l : List Field} {r : List (Nat × Nat)}, plsOf T l = some r → l.mapM (fun f => (P.info? f.type).map fun i => (f.offset, i.size)) = some r
  | [], r, h => by cases h; rfl
  | f :: l, r, h => by
    unfold plsOf at h
    split at h
    · rename_i y r' h1 h2
      cases h
      rw [List.mapM_cons, (hT _ _ h1).2, plsOf_ok hT h2]
      rfl
    · cases h
def buildR (k : Nat) (la : List AV) (ps : List ((Nat × Nat) × Rd)) (_ : CH) (F : NT) (h : Hp) (c : AV → Hp → Bool) : Bool := tall (aBuild k la (prsK ps F) h c)
def clB1 (z : Value) (k : Nat) (ps : Option (List ((Nat × Nat) × Rd))) : Cl := match ps with
  | none => clNo
  | some ps => ⟨buildR k (ofCells z) ps⟩
def clBuild (T : Nat → Option Ty) (t : Nat) (parts : List (Nat × Operand)) : Cl := match T t with
  | some ⟨.array _ e, it⟩ => match it.zero, zeroFits it, T e with
    | some z, true, some y => clB1 z it.size (prOf (fun i => some (i * y.info.size, y.info.size)) parts)
    | _, _, _ => clNo
  | some ⟨.struct fs, it⟩ => match it.zero, zeroFits it, plsOf T fs.toList with
    | some z, true, some pls => clB1 z it.size (prOf (fun i => pls[i]?) parts)
    | _, _, _ => clNo
  | _ => clNo
theorem clBuild_ok (hρ : ∀ i, (ρ i).oneCell = true) {T : Nat → Option Ty} (hT : TTok P T) {o : Oper} {t : TypeId} {parts : Array (Nat × Operand)} (ho : o.op = .build t parts) : Cl.ok P ρ N o (clBuild T t parts.toList) := fun ch F h c g a w _ e hF hr => by
  have hx : execOp a.eval o = (do pure (.value (← Instr.build t (parts.map fun x => (x.1, a.eval x.2))))) := by simp [execOp, ho]
  have hvs : (parts.map fun x => (x.1, a.eval x.2)).toList = parts.toList.map fun x => (x.1, a.eval x.2) := by simp
  unfold clBuild at e
  split at e
  · rename_i n el it hs
    split at e
    · rename_i z y hz hf hy
      obtain ⟨z2, z3⟩ := zeroFits_some hf hz
      unfold clB1 at e
      split at e
      · exact Bool.noConfusion (show false = true from e)
      · rename_i ps hps
        refine Did.pur hr hx (aBuild_ok hρ (z := z) (place := fun i => some (i * y.info.size, y.info.size)) (fun cs hc => ?_) (ofCells_len z2) (ofCells_ok z g) z3 (by rw [hvs]; exact prOf_ok hF hps) e)
        unfold Program.built
        rw [(hT _ _ hs).2, (hT _ _ hs).1]
        simp only [hz, (hT _ _ hy).2]
        exact hc
    · exact Bool.noConfusion (show false = true from e)
  · rename_i fs it hs
    split at e
    · rename_i z pls hz hf hpl
      obtain ⟨z2, z3⟩ := zeroFits_some hf hz
      unfold clB1 at e
      split at e
      · exact Bool.noConfusion (show false = true from e)
      · rename_i ps hps
        refine Did.pur hr hx (aBuild_ok hρ (z := z) (place := fun i => pls[i]?) (fun cs hc => ?_) (ofCells_len z2) (ofCells_ok z g) z3 (by rw [hvs]; exact prOf_ok hF hps) e)
        unfold Program.built
        rw [(hT _ _ hs).2, (hT _ _ hs).1]
        simp only [hz, plsOf_ok hT hpl]
        rw [← hc]
        congr 1
        funext i
        simp
    · exact Bool.noConfusion (show false = true from e)
  · exact Bool.noConfusion (show false = true from e)
def repL (la : List AV) : Nat → List AV
  | 0 => []
  | n + 1 => la ++ repL la n
theorem repL_ok {g : G} {z : Value} {s : Nat} (hs : z.cells.size = s) : ∀ n, VRs ρ g (repL (ofCells z) n) ((Array.range (n * s)).map (z.cells[· % z.cells.size]!)).toList := fun n => by
  have hlen : ∀ n, (repL (ofCells z) n).length = n * s := fun n => by
    induction n with
    | zero => simp [repL]
    | succ n ih => rw [repL, List.length_append, ih, ofCells_len hs, Nat.succ_mul, Nat.add_comm]
  have hget : ∀ n i a, (repL (ofCells z) n)[i]? = some a → (ofCells z)[i % s]? = some a := fun n => by
    induction n with
    | zero => intro i a h; simp [repL] at h
    | succ n ih =>
      intro i a h
      rw [repL] at h
      by_cases hi : i < s
      · rw [List.getElem?_append_left (by rw [ofCells_len hs]; exact hi)] at h
        rw [Nat.mod_eq_of_lt hi]; exact h
      · rw [List.getElem?_append_right (by rw [ofCells_len hs]; omega), ofCells_len hs] at h
        have := ih _ _ h
        rwa [← Nat.mod_eq_sub_mod (by omega)] at this
  refine VRs.of_get (by rw [hlen]; simp) fun i a v ha hv => ?_
  rw [Array.getElem?_toList, Array.getElem?_map, Array.getElem?_range] at hv
  have h1 := hget _ _ _ ha
  obtain ⟨u, u1, u2⟩ := VRs.get (ofCells_ok (ρ := ρ) z g) _ _ h1
  rw [Array.getElem?_toList] at u1
  split at hv
  · simp only [Option.map_some, Option.some.injEq] at hv
    have hlt := (Array.getElem?_eq_some_iff.1 u1).1
    rw [hs, getElem!_pos z.cells (i % s) hlt] at hv
    rw [Array.getElem?_eq_getElem hlt, Option.some.injEq] at u1
    rw [← hv, u1]
    exact u2
  · cases hv
def rowR (z n : Nat) (zs : List AV) (ps : List ((Nat × Nat) × Rd)) (_ : CH) (F : NT) (h : Hp) (c : AV → Hp → Bool) : Bool := tall (aRow z n zs (prsK ps F) h c)
def clRow (T : Nat → Option Ty) (t n : Nat) (parts : List (Nat × Operand)) : Cl := match T t with
  | some ⟨.slice el, _⟩ => match T el with
    | none => clNo
    | some y => match y.info.zero, zeroFits y.info, Nat.ble (n * y.info.size) 16777216, prOf (fun i => some (i * y.info.size, y.info.size)) parts with
      | some z, true, true, some ps => ⟨rowR y.info.size n (repL (ofCells z) n) ps⟩
      | _, _, _, _ => clNo
  | _ => clNo
theorem clRow_ok (hρ : ∀ i, (ρ i).oneCell = true) {T : Nat → Option Ty} (hT : TTok P T) {o : Oper} {t : TypeId} {n : Nat} {parts : Array (Nat × Operand)} (ho : o.op = .buildSlice t n parts) : Cl.ok P ρ N o (clRow T t n parts.toList) := fun ch F h c g a w _ e hF hr => by
  have hx : execOp a.eval o = (do pure (.value (← Instr.buildSlice t n (parts.map fun x => (x.1, a.eval x.2))))) := by simp [execOp, ho]
  have hvs : (parts.map fun x => (x.1, a.eval x.2)).toList = parts.toList.map fun x => (x.1, a.eval x.2) := by simp
  unfold clRow at e
  split at e
  · rename_i el it hs
    split at e
    · exact Bool.noConfusion (show false = true from e)
    · rename_i y hy
      split at e
      · rename_i z ps hz hf hb hps
        obtain ⟨z2, z3⟩ := zeroFits_some hf hz
        have hb : n * y.info.size ≤ 16777216 := Nat.le_of_ble_eq_true hb
        refine Did.val hx (aRow_ok hρ (hT _ _ hs).1 (hT _ _ hy).2 hz (by omega) (fun g => repL_ok z2 n) (fun v hv => ?_) (by rw [hvs]; exact prOf_ok hF hps) hr e)
        obtain ⟨i, hi⟩ := List.getElem?_of_mem hv
        rw [Array.getElem?_toList, Array.getElem?_map, Array.getElem?_range] at hi
        split at hi
        · rename_i hlt
          simp only [Option.map_some, Option.some.injEq] at hi
          have hpos : 0 < y.info.size := by
            rcases Nat.eq_zero_or_pos y.info.size with h0 | h0
            · rw [h0] at hlt; simp at hlt
            · exact h0
          have hm : i % z.cells.size < z.cells.size := Nat.mod_lt _ (by rw [z2]; exact hpos)
          rw [getElem!_pos z.cells _ hm] at hi
          rw [← hi]
          exact z3 _ (Array.mem_toList_iff.2 (Array.getElem_mem _))
        · cases hi
      · exact Bool.noConfusion (show false = true from e)
  · exact Bool.noConfusion (show false = true from e)
end
end Ev
end Go.Proofs.YticoibkgeejkoaaGreatDoor
namespace Go.Proofs.YticoibkgeejkoaaGreatDoor
namespace Ev
set_option linter.unusedVariables false
noncomputable section
variable {ρ : Nat → Value} {g : G} {h : Hp} {w : World} {P : Program} {N : Nat}
def AO.my (k : Nat) (bs : List Nat) (es : List (AV × AV)) (y : Nat → List Nat → List (AV × AV) → Bool) : Bool := y k bs es
def AO.mapsK (x : AO) (y : Nat → List Nat → List (AV × AV) → Bool) : Bool :=
  AO.rec (motive := fun _ => (Nat → List Nat → List (AV × AV) → Bool) → Bool) (fun _ => false) (fun _ _ _ _ _ => false) AO.my (fun _ _ _ _ => false) (fun _ _ _ _ _ => false) (fun _ _ _ _ _ _ _ _ => false) x y
theorem AO.mapsK_true {x : AO} {y : Nat → List Nat → List (AV × AV) → Bool} (h : x.mapsK y = true) : ∃ k bs es, x = .map k bs es ∧ y k bs es = true := by
  cases x <;> first | exact ⟨_, _, _, rfl, h⟩ | exact Bool.noConfusion (show false = true from h)
theorem ba_beq {a b : ByteArray} : (a == b) = true ↔ a = b := by
  cases a with
  | mk x =>
    cases b with
    | mk y =>
      show (x == y) = true ↔ _
      rw [beq_iff_eq]
      exact ⟨fun h => by rw [h], fun h => ByteArray.mk.inj h⟩
def keyI (a b : AV) (t f : Bool) : Bool := a.numK (fun u => b.i64K fun v => sel (Nat.beq u v) t f) (fun k n => b.intK fun j m => both (kindEq k j) (sel (decide (n = m)) t f))
def keyS (a b : AV) (t f : Bool) : Bool := a.strK fun n x => b.strK fun m y => sel (Bool.rec (motive := fun _ => Bool) false (Nat.beq x y) (Nat.beq n m)) t f
def keyB (a b : AV) (t f : Bool) : Bool := a.boolK (b.boolK t f) (b.boolK f t)
def KyOk (d : TypeDesc) (ky : AV → AV → Bool → Bool → Bool) : Prop := ∀ (ρ : Nat → Value) (g : G) (a b : AV) (av bv : Value) (t f : Bool), ky a b t f = true → VR ρ g a av → VR ρ g b bv → (Instr.sameNow d av bv = some true ∧ t = true) ∨ (Instr.sameNow d av bv = some false ∧ f = true)
theorem keyI_ok (k : IntKind) : KyOk (.int k) keyI := fun ρ g a b av bv t f e ha hb => by
  rcases AV.numK_true e with ⟨u, rfl, e⟩ | ⟨k1, n, rfl, e⟩
  · obtain ⟨v, rfl, e⟩ := AV.i64K_true e
    obtain ⟨rfl, _⟩ := ha.inv_i64
    obtain ⟨rfl, _⟩ := hb.inv_i64
    rcases sel_true e with ⟨e1, e⟩ | ⟨e1, e⟩
    · have e1 := beq_true e1
      exact .inl ⟨by simp [Instr.sameNow, e1], e⟩
    · have e1 := beq_false e1
      refine .inr ⟨?_, e⟩
      have : ((u : Int) - 9223372036854775808 == (v : Int) - 9223372036854775808) = false := by rw [beq_eq_false_iff_ne]; omega
      simp only [Instr.sameNow, if_true, this]
  · obtain ⟨k2, m, rfl, e⟩ := AV.intK_true e
    have := ha.inv_int; subst this
    have := hb.inv_int; subst this
    obtain ⟨e1, e2⟩ := both_true (show both (kindEq k1 k2) (sel (decide (n = m)) t f) = true from e)
    have hkk := kindEq_true e1; subst hkk
    rcases sel_true e2 with ⟨e1, e⟩ | ⟨e1, e⟩
    · exact .inl ⟨by simp [Instr.sameNow, of_decide_eq_true e1], e⟩
    · have := of_decide_eq_false e1
      exact .inr ⟨by simp [Instr.sameNow, this], e⟩
theorem keyS_ok : KyOk .string keyS := fun ρ g a b av bv t f e ha hb => by
  obtain ⟨n, x, rfl, e⟩ := AV.strK_true (v := a) e
  obtain ⟨m, y, rfl, e⟩ := AV.strK_true (v := b) e
  obtain ⟨s, rfl, hx, hs, hn⟩ := ha.inv_str
  obtain ⟨s', rfl, hx', hs', hn'⟩ := hb.inv_str
  have same : (n = m ∧ x = y) ↔ s = s' := by
    constructor
    · rintro ⟨rfl, rfl⟩
      apply ByteArray.ext
      apply Array.toList_inj.1
      rw [hs, hs']
    · rintro rfl
      have h1 : n = m := by rw [← hn, ← hn']
      subst h1
      exact ⟨rfl, bytesOf_inj n x y hx hx' (by rw [← hs, ← hs'])⟩
  rcases sel_true e with ⟨e1, e⟩ | ⟨e1, e⟩
  · cases hb1 : Nat.beq n m with
    | false => rw [hb1] at e1; exact Bool.noConfusion (show false = true from e1)
    | true =>
      rw [hb1] at e1
      have := same.1 ⟨beq_true hb1, beq_true (show Nat.beq x y = true from e1)⟩
      exact .inl ⟨by simp only [Instr.sameNow]; rw [ba_beq.2 this], e⟩
  · have hne : s ≠ s' := fun he => by
      obtain ⟨h1, h2⟩ := same.2 he
      subst h1; subst h2
      have : Nat.beq n n = true := Nat.beq_refl n
      rw [this] at e1
      have e1 : Nat.beq x x = false := e1
      rw [Nat.beq_refl] at e1
      cases e1
    have hb : (s == s') = false := by rw [← Bool.not_eq_true, ba_beq]; exact hne
    exact .inr ⟨by simp only [Instr.sameNow]; rw [hb], e⟩
theorem keyB_ok : KyOk .bool keyB := fun ρ g a b av bv t f e ha hb => by
  rcases AV.boolK_true (v := a) e with ⟨rfl, e⟩ | ⟨rfl, e⟩ <;> rcases AV.boolK_true (v := b) e with ⟨rfl, e⟩ | ⟨rfl, e⟩ <;>
    (have := ha.inv_bool; subst this; have := hb.inv_bool; subst this)
  · exact .inl ⟨rfl, e⟩
  · exact .inr ⟨rfl, e⟩
  · exact .inr ⟨rfl, e⟩
  · exact .inl ⟨rfl, e⟩
def fnd0 (ky : AV → AV → Bool → Bool → Bool) (k : AV) (y : AV → Bool) (e : AV × AV) (_ : List (AV × AV)) (ih : Bool) : Bool := ky k e.1 (y e.2) ih
def findK (ky : AV → AV → Bool → Bool → Bool) (k : AV) (y : AV → Bool) (n : Bool) (es : List (AV × AV)) : Bool := List.rec (motive := fun _ => Bool) n (fnd0 ky k y) es
theorem findK_true {d : TypeDesc} {ky : AV → AV → Bool → Bool → Bool} (hky : KyOk d ky) {k : AV} {kv : Value} {y : AV → Bool} {n : Bool} (hk : VR ρ g k kv) : ∀ {es : List (AV × AV)} {ms : List MapEntry} (j : Nat), findK ky k y n es = true → VRs ρ g (es.map (·.1)) (ms.map (·.key)) → VRs ρ g (es.map (·.2)) (ms.map (·.val)) →
    (∃ i v av, Instr.findNow d kv ms j = some (some (i, v)) ∧ VR ρ g av v ∧ y av = true) ∨ (Instr.findNow d kv ms j = some none ∧ n = true)
  | [], [], j, e, _, _ => .inr ⟨rfl, e⟩
  | [], m :: ms, j, e, h1, _ => by cases h1
  | x :: es, [], j, e, h1, _ => by cases h1
  | x :: es, m :: ms, j, e, h1, h2 => by
    cases h1 with
    | cons _ _ _ _ a1 b1 =>
    cases h2 with
    | cons _ _ _ _ a2 b2 =>
    rcases hky ρ g k x.1 kv m.key (y x.2) (findK ky k y n es) e hk a1 with ⟨e1, e2⟩ | ⟨e1, e2⟩
    · exact .inl ⟨j, m.val, x.2, by simp [Instr.findNow, e1], a2, e2⟩
    · rcases findK_true hky hk (j + 1) e2 b1 b2 with ⟨i, v, av, f1, f2, f3⟩ | ⟨f1, f2⟩
      · exact .inl ⟨i, v, av, by simp [Instr.findNow, e1, f1], f2, f3⟩
      · exact .inr ⟨by simp [Instr.findNow, e1, f1], f2⟩
def kyOf : TypeDesc → Option (AV → AV → Bool → Bool → Bool)
  | .int _ => some keyI
  | .string => some keyS
  | .bool => some keyB
  | _ => none
theorem run_checkKey {d : TypeDesc} (h : kyOf d ≠ none) {kt : TypeId} {e : Bool} {v : Value} (hk : P.underlying kt = some d) (w : World) : (Instr.checkKey e 10000 kt v).run P w = .ok () w := by
  have : ∀ n, (Instr.checkKey e (n + 1) kt v).run P w = .ok () w := fun n => by
    unfold kyOf at h
    split at h
    · cases v <;> simp [Instr.checkKey, run_underlying hk]
    · cases v <;> simp [Instr.checkKey, run_underlying hk]
    · cases v <;> simp [Instr.checkKey, run_underlying hk]
    · exact absurd rfl h
  exact this 9999
theorem kyOf_ok {d : TypeDesc} {ky : AV → AV → Bool → Bool → Bool} (h : kyOf d = some ky) : KyOk d ky ∧ ∀ {kt : TypeId} {e : Bool} {v : Value}, P.underlying kt = some d → ∀ w, (Instr.checkKey e 10000 kt v).run P w = .ok () w := by
  refine ⟨?_, fun {kt e v} hk w => run_checkKey (by rw [h]; simp) hk w⟩
  unfold kyOf at h
  split at h
  · cases h; exact keyI_ok _
  · cases h; exact keyS_ok
  · cases h; exact keyB_ok
  · cases h
def zvOf (i : TypeInfo) : Option AV := match i.zero with
  | none => none
  | some (.agg cs) => match cs.toList.all Value.oneCell with
    | true => some (.agg cs.size (ofCells (.agg cs)))
    | false => none
  | some v => some (ofV v)
theorem zvOf_ok {i : TypeInfo} {z : AV} (h : zvOf i = some z) : ∃ v, i.zero = some v ∧ ∀ g, VR ρ g z v := by
  unfold zvOf at h
  split at h
  · cases h
  · rename_i cs hz
    split at h
    · rename_i hb
      cases h
      rw [List.all_eq_true] at hb
      refine ⟨_, hz, fun g => .agg _ _ _ (ofCells_ok (.agg cs) g) ?_ hb⟩
      rw [ofCells_len (z := .agg cs) rfl]
      rfl
    · cases h
  · rename_i v hn hz
    cases h
    exact ⟨v, hz, fun g => ofV_ok g v⟩
def lkR (ok : Bool) (b : Bool) (h : Hp) (c : AV → Hp → Bool) (v : AV) : Bool := sel ok (c (.tup [v, .bool b]) h) (c v h)
def aLook1 (ky : AV → AV → Bool → Bool → Bool) (z : AV) (ok : Bool) (k : AV) (h : Hp) (c : AV → Hp → Bool) (_ : Nat) (_ : List Nat) (es : List (AV × AV)) : Bool := findK ky k (lkR ok true h c) (lkR ok false h c z) es
def aLook (ky : AV → AV → Bool → Bool → Bool) (z : AV) (ok : Bool) (x k : AV) (h : Hp) (c : AV → Hp → Bool) : Bool := x.mapK (lkR ok false h c z) fun l => (h.get l).mapsK (aLook1 ky z ok k h c)
theorem lkR_true {ok b : Bool} {c : AV → Hp → Bool} {av : AV} {v : Value} (e : lkR ok b h c av = true) (hv : VR ρ g av v) : ∃ a, VR ρ g a (if ok then .tuple #[v, .bool b] else v) ∧ c a h = true := by
  rcases sel_true e with ⟨rfl, e⟩ | ⟨rfl, e⟩
  · exact ⟨_, .tup _ _ (.cons _ _ _ _ hv (.cons _ _ _ _ (.bool b) .nil)), e⟩
  · exact ⟨_, hv, e⟩
theorem aLook_ok {ky : AV → AV → Bool → Bool → Bool} {d : TypeDesc} {z : AV} {ok : Bool} {x k : AV} {xv kv : Value} {t kt el : TypeId} {i : TypeInfo} {c : AV → Hp → Bool} (hd : kyOf d = some ky) (ht : P.underlying t = some (.map kt el)) (hk : P.underlying kt = some d) (hi : P.info? el = some i) (hz : zvOf i = some z)
    (e : aLook ky z ok x k h c = true) (hx : VR ρ g x xv) (hkv : VR ρ g k kv) (hr : HR ρ g h w) : Pur P ρ g h w (Instr.lookup t xv kv ok) c := by
  obtain ⟨hky, hck⟩ := kyOf_ok (P := P) hd
  obtain ⟨zv, z1, z2⟩ := zvOf_ok (ρ := ρ) hz
  have hzv : (zeroValue el).run P w = .ok zv w := by simp [zeroValue, typeInfo, hi, z1]
  have hck : ∀ e w, (Instr.checkKey e 10000 kt kv).run P w = .ok () w := fun e => hck hk
  rcases AV.mapK_true (v := x) e with ⟨rfl, e⟩ | ⟨l, rfl, e⟩
  · have := hx.inv_nilm; subst this
    obtain ⟨a, ha, e⟩ := lkR_true e (z2 g)
    refine ⟨a, _, ?_, ha, e⟩
    simp [Instr.lookup, run_underlying ht, run_underlying hk, hck, Instr.findKey, Instr.findNow, hzv, Result.andThen]
  · obtain ⟨b, b0, hb, rfl⟩ := hx.inv_map
    obtain ⟨kk, bs, es, ho, e⟩ := AO.mapsK_true e
    have hob := hr.ob l b b0 hb
    rw [ho] at hob
    obtain ⟨ms, h1, h2, h3, h4⟩ := hob
    rcases findK_true hky hkv 0 (ms := ms.toList) e h2 h3 with ⟨j, v, av, f1, f2, f3⟩ | ⟨f1, f2⟩
    · obtain ⟨a, ha, e⟩ := lkR_true f3 f2
      refine ⟨a, _, ?_, ha, e⟩
      simp [Instr.lookup, run_underlying ht, run_underlying hk, MapKept.run_getObj_map h1, hck, Instr.findKey, f1, Result.andThen]
    · obtain ⟨a, ha, e⟩ := lkR_true f2 (z2 g)
      refine ⟨a, _, ?_, ha, e⟩
      simp [Instr.lookup, run_underlying ht, run_underlying hk, MapKept.run_getObj_map h1, hck, Instr.findKey, f1, hzv, Result.andThen]
def pre2 (e : AV × AV) (y : List (AV × AV) → Bool) (l : List (AV × AV)) : Bool := y (e :: l)
def upd0 (ky : AV → AV → Bool → Bool → Bool) (k v : AV) (e : AV × AV) (l : List (AV × AV)) (ih : (List (AV × AV) → Bool) → (List (AV × AV) → Bool) → Bool) (y n : List (AV × AV) → Bool) : Bool := ky k e.1 (y ((k, v) :: l)) (ih (pre2 e y) (pre2 e n))
def updN (k v : AV) (_ n : List (AV × AV) → Bool) : Bool := n [(k, v)]
def updK (ky : AV → AV → Bool → Bool → Bool) (k v : AV) (es : List (AV × AV)) (y n : List (AV × AV) → Bool) : Bool := List.rec (motive := fun _ => (List (AV × AV) → Bool) → (List (AV × AV) → Bool) → Bool) (updN k v) (upd0 ky k v) es y n
theorem updK_true {d : TypeDesc} {ky : AV → AV → Bool → Bool → Bool} (hky : KyOk d ky) {k v : AV} {kv vv : Value} (hk : VR ρ g k kv) (hv : VR ρ g v vv) : ∀ {es : List (AV × AV)} {ms : List MapEntry} {y n : List (AV × AV) → Bool} (j : Nat), updK ky k v es y n = true → VRs ρ g (es.map (·.1)) (ms.map (·.key)) → VRs ρ g (es.map (·.2)) (ms.map (·.val)) →
    (∃ i es' v' m, Instr.findNow d kv ms j = some (some (j + i, v')) ∧ ms[i]? = some m ∧ Instr.sameNow d kv m.key = some true ∧ y es' = true ∧ VRs ρ g (es'.map (·.1)) ((ms.modify i fun e => { e with key := kv, val := vv }).map (·.key)) ∧ VRs ρ g (es'.map (·.2)) ((ms.modify i fun e => { e with key := kv, val := vv }).map (·.val))) ∨
    (Instr.findNow d kv ms j = some none ∧ n (es ++ [(k, v)]) = true)
  | [], [], y, n, j, e, _, _ => .inr ⟨rfl, e⟩
  | [], m :: ms, y, n, j, e, h1, _ => by cases h1
  | x :: es, [], y, n, j, e, h1, _ => by cases h1
  | x :: es, m :: ms, y, n, j, e, h1, h2 => by
    cases h1 with
    | cons _ _ _ _ a1 b1 =>
    cases h2 with
    | cons _ _ _ _ a2 b2 =>
    rcases hky ρ g k x.1 kv m.key (y ((k, v) :: es)) (updK ky k v es (pre2 x y) (pre2 x n)) e hk a1 with ⟨e1, e2⟩ | ⟨e1, e2⟩
    · exact .inl ⟨0, (k, v) :: es, m.val, m, by simp [Instr.findNow, e1], rfl, e1, e2, by simpa using VRs.cons _ _ _ _ hk b1, by simpa using VRs.cons _ _ _ _ hv b2⟩
    · rcases updK_true hky hk hv (j + 1) e2 b1 b2 with ⟨i, es', v', m', f1, f2, f3, f4, f5, f6⟩ | ⟨f1, f2⟩
      · exact .inl ⟨i + 1, x :: es', v', m', by simp [Instr.findNow, e1, f1]; omega, f2, f3, f4, by simpa using VRs.cons _ _ _ _ a1 f5, by simpa using VRs.cons _ _ _ _ a2 f6⟩
      · exact .inr ⟨by simp [Instr.findNow, e1, f1], f2⟩
def aUpd3 (l : L) (k : Nat) (bs : List Nat) (h : Hp) (c : AV → Hp → Bool) (es : List (AV × AV)) : Bool := h.set l (.map k bs es) (c .undef)
def appN (l : List Nat) (x : Nat) : List Nat := List.rec (motive := fun _ => List Nat) [x] (fun a _ ih => a :: ih) l
theorem appN_eq (l : List Nat) (x : Nat) : appN l x = l ++ [x] := by
  induction l with
  | nil => rfl
  | cons a l ih => show a :: appN l x = _; rw [ih]; rfl
def aUpd1 (ky : AV → AV → Bool → Bool → Bool) (l : L) (k v : AV) (h : Hp) (c : AV → Hp → Bool) (clk : Nat) (bs : List Nat) (es : List (AV × AV)) : Bool :=
  updK ky k v es (aUpd3 l clk bs h c) (aUpd3 l (Nat.succ clk) (appN bs clk) h c)
def aUpd (ky : AV → AV → Bool → Bool → Bool) (x k v : AV) (h : Hp) (c : AV → Hp → Bool) : Bool := x.mapK false fun l => (h.get l).mapsK (aUpd1 ky l k v h c)
theorem bits_succ (n : Nat) {d : TypeDesc} {a b : Value} (h : Instr.sameNow d a b = some true) : Instr.sameBits (n + 1) b a = true := by
  unfold Instr.sameNow at h
  split at h
  · split at h
    · rename_i hk
      have h := beq_iff_eq.1 (Option.some.inj h)
      subst hk; subst h; simp [Instr.sameBits]
    · cases h
  · have h := ba_beq.1 (Option.some.inj h)
    subst h
    exact ba_beq.2 rfl
  · have h := eq_of_beq (Option.some.inj h)
    subst h; simp [Instr.sameBits]
  · cases h
theorem sameNow_bits {d : TypeDesc} {a b : Value} (h : Instr.sameNow d a b = some true) : Instr.sameBits 10000 b a = true := bits_succ 9999 h
theorem map_modify_born (ms : List MapEntry) (i : Nat) (kv vv : Value) : (ms.modify i fun e => { e with key := kv, val := vv }).map (·.born) = ms.map (·.born) := by
  induction ms generalizing i with
  | nil => simp
  | cons m ms ih =>
    cases i with
    | zero => simp
    | succ i => simp [ih]
theorem VRs.snoc {l : List AV} {vs : List Value} {a : AV} {v : Value} (h : VRs ρ g l vs) (hv : VR ρ g a v) : VRs ρ g (l ++ [a]) (vs ++ [v]) := h.append (.cons _ _ _ _ hv .nil)
theorem aUpd_ok {ky : AV → AV → Bool → Bool → Bool} {d : TypeDesc} {x k v : AV} {xv kv vv : Value} {t kt el : TypeId} {c : AV → Hp → Bool} (hd : kyOf d = some ky) (ht : P.underlying t = some (.map kt el)) (hk : P.underlying kt = some d)
    (e : aUpd ky x k v h c = true) (hx : VR ρ g x xv) (hkv : VR ρ g k kv) (hv : VR ρ g v vv) (hr : HR ρ g h w) : EffU P ρ g h w (Instr.mapUpdate t xv kv vv) c := by
  obtain ⟨hky, hck⟩ := kyOf_ok (P := P) hd
  have hck : ∀ e w, (Instr.checkKey e 10000 kt kv).run P w = .ok () w := fun e => hck hk
  rcases AV.mapK_true (v := x) e with ⟨rfl, e⟩ | ⟨l, rfl, e⟩
  · exact Bool.noConfusion e
  · obtain ⟨b, b0, hb, rfl⟩ := hx.inv_map
    obtain ⟨clk, bs, es, ho, e⟩ := AO.mapsK_true e
    have hob := hr.ob l b b0 hb
    rw [ho] at hob
    obtain ⟨ms, h1, h2, h3, h4⟩ := hob
    have hlt : b < w.heap.size := hr.lt _ _ _ hb
    have hset : ∀ o', (setObj b o').run P w = .ok () { w with heap := w.heap.setIfInBounds b o' } := fun o' => by
      simp only [setObj, Sem.run, h1]
    have hal : h.get l ≠ .none := by rw [ho]; exact fun e => AO.noConfusion e
    rcases updK_true hky hkv hv 0 (ms := ms.toList) e h2 h3 with ⟨i, es', v', m, f1, f2, f3, f4, f5, f6⟩ | ⟨f1, f2⟩
    · rw [Nat.zero_add] at f1
      obtain ⟨h', e, hn, hg, hfl⟩ := Hp.set_true f4
      have hmi : ms[i]? = some m := by simpa using f2
      refine ⟨g, h', _, ?_, hr.obj hb hal _ (.map (ms.modify i fun e => { e with key := kv, val := vv }) clk) hn hg hfl (by exact fun e => AO.noConfusion e) ?_, e⟩
      · simp [Instr.mapUpdate, run_underlying ht, run_underlying hk, MapKept.run_getObj_map h1, hck, Instr.findKey, f1, Instr.keyThatStays, hmi, sameNow_bits f3, Result.andThen, hset]
      · exact ⟨ms.modify i fun e => { e with key := kv, val := vv }, by simp [hlt], by rw [Array.toList_modify]; exact f5, by rw [Array.toList_modify]; exact f6, by rw [Array.toList_modify, map_modify_born]; exact h4⟩
    · obtain ⟨h', e, hn, hg, hfl⟩ := Hp.set_true f2
      refine ⟨g, h', _, ?_, hr.obj hb hal _ (.map (ms.push { key := kv, val := vv, born := clk }) (clk + 1)) hn hg hfl (by exact fun e => AO.noConfusion e) ?_, e⟩
      · simp [Instr.mapUpdate, run_underlying ht, run_underlying hk, MapKept.run_getObj_map h1, hck, Instr.findKey, f1, Result.andThen, hset]
      · exact ⟨ms.push { key := kv, val := vv, born := clk }, by simp [hlt], by simpa using h2.snoc hkv, by simpa using h3.snoc hv, by rw [appN_eq]; simp [h4]⟩
def aClr1 (l : L) (h : Hp) (c : AV → Hp → Bool) (clk : Nat) (_ : List Nat) (_ : List (AV × AV)) : Bool := h.set l (.map clk [] []) (c (.tup []))
def aClr (x : AV) (h : Hp) (c : AV → Hp → Bool) : Bool := x.mapK (c (.tup []) h) fun l => (h.get l).mapsK (aClr1 l h c)
theorem aClr_ok {x : AV} {xv : Value} {t kt el ty : TypeId} {c : AV → Hp → Bool} (ht : P.underlying t = some (.map kt el)) (e : aClr x h c = true) (hx : VR ρ g x xv) (hr : HR ρ g h w) : Eff P ρ g h w (Builtin.clear_ #[t] ty #[xv]) c := by
  rcases AV.mapK_true (v := x) e with ⟨rfl, e⟩ | ⟨l, rfl, e⟩
  · have := hx.inv_nilm; subst this
    exact ⟨_, .tuple #[], g, h, w, by simp [Builtin.clear_, run_underlying ht], Step.refl hr, .tup _ _ .nil, e⟩
  · obtain ⟨b, b0, hb, rfl⟩ := hx.inv_map
    obtain ⟨clk, bs, es, ho, e⟩ := AO.mapsK_true e
    have hob := hr.ob l b b0 hb
    rw [ho] at hob
    obtain ⟨ms, h1, h2, h3, h4⟩ := hob
    have hlt : b < w.heap.size := hr.lt _ _ _ hb
    have hset : ∀ o', (setObj b o').run P w = .ok () { w with heap := w.heap.setIfInBounds b o' } := fun o' => by
      simp only [setObj, Sem.run, h1]
    have hal : h.get l ≠ .none := by rw [ho]; exact fun e => AO.noConfusion e
    obtain ⟨h', e, hn, hg, hfl⟩ := Hp.set_true e
    refine ⟨_, .tuple #[], g, h', _, ?_, hr.obj hb hal _ (.map #[] clk) hn hg hfl (by exact fun e => AO.noConfusion e) ⟨#[], by simp [hlt], .nil, .nil, rfl⟩, .tup _ _ .nil, e⟩
    simp [Builtin.clear_, run_underlying ht, MapKept.run_getObj_map h1, hset, Result.andThen]
end
end Ev
end Go.Proofs.YticoibkgeejkoaaGreatDoor
namespace Go.Proofs.YticoibkgeejkoaaGreatDoor
namespace Ev
set_option linter.unusedVariables false
noncomputable section
variable {ρ : Nat → Value} {P : Program} {N : Nat}
def lookR (ky : AV → AV → Bool → Bool → Bool) (z : AV) (ok : Bool) (x k : Rd) (_ : CH) (F : NT) (h : Hp) (c : AV → Hp → Bool) : Bool := tall (aLook ky z ok (x.get F) (k.get F) h c)
def clLook (T : Nat → Option Ty) (t : Nat) (x k : Operand) (ok : Bool) : Cl := match T t with
  | some ⟨.map kt el, _⟩ => match T kt, T el with
    | some yk, some ye => match kyOf yk.und, zvOf ye.info with
      | some ky, some z => ⟨lookR ky z ok (rdOf x) (rdOf k)⟩
      | _, _ => clNo
    | _, _ => clNo
  | _ => clNo
theorem clLook_pur {T : Nat → Option Ty} (hT : TTok P T) {g : G} {h : Hp} {w : World} {t : TypeId} {x k : Operand} {ok : Bool} {ch : CH} {F : NT} {c : AV → Hp → Bool} {a : Act} (e : (clLook T t x k ok).run ch F h c = true) (hF : FR ρ g N F a.tmps) (hr : HR ρ g h w) : Pur P ρ g h w (Instr.lookup t (a.eval x) (a.eval k) ok) c := by
  unfold clLook at e
  split at e
  · rename_i kt el i hs
    split at e
    · rename_i yk ye hyk hye
      split at e
      · rename_i ky z hky hz
        exact aLook_ok hky (hT _ _ hs).1 (hT _ _ hyk).1 (hT _ _ hye).2 hz e (rdOf_ok hF x) (rdOf_ok hF k) hr
      · exact Bool.noConfusion (show false = true from e)
    · exact Bool.noConfusion (show false = true from e)
  · exact Bool.noConfusion (show false = true from e)
theorem clLook_ok {T : Nat → Option Ty} (hT : TTok P T) {o : Oper} {t : TypeId} {x k : Operand} {ok : Bool} (ho : o.op = .lookup t x k ok) : Cl.ok P ρ N o (clLook T t x k ok) := fun ch F h c g a w _ e hF hr =>
  Did.pur (s := Instr.lookup t (a.eval x) (a.eval k) ok) hr (by simp [execOp, ho]) (clLook_pur hT e hF hr)
def updR (ky : AV → AV → Bool → Bool → Bool) (x k v : Rd) (_ : CH) (F : NT) (h : Hp) (c : AV → Hp → Bool) : Bool := tall (aUpd ky (x.get F) (k.get F) (v.get F) h c)
def clUpd (T : Nat → Option Ty) (t : Nat) (x k v : Operand) : Cl := match T t with
  | some ⟨.map kt _, _⟩ => match T kt with
    | some yk => match kyOf yk.und with
      | some ky => ⟨updR ky (rdOf x) (rdOf k) (rdOf v)⟩
      | none => clNo
    | none => clNo
  | _ => clNo
theorem clUpd_ok {T : Nat → Option Ty} (hT : TTok P T) {o : Oper} {t : TypeId} {x k v : Operand} (ho : o.op = .mapUpdate t x k v) : Cl.ok P ρ N o (clUpd T t x k v) := fun ch F h c g a w _ e hF hr => by
  unfold clUpd at e
  split at e
  · rename_i kt el i hs
    split at e
    · rename_i yk hyk
      split at e
      · rename_i ky hky
        exact Did.unit (by simp [execOp, ho]) (aUpd_ok hky (hT _ _ hs).1 (hT _ _ hyk).1 e (rdOf_ok hF x) (rdOf_ok hF k) (rdOf_ok hF v) hr)
      · exact Bool.noConfusion (show false = true from e)
    · exact Bool.noConfusion (show false = true from e)
  · exact Bool.noConfusion (show false = true from e)
def clrR (x : Rd) (_ : CH) (F : NT) (h : Hp) (c : AV → Hp → Bool) : Bool := tall (aClr (x.get F) h c)
def clClr (T : Nat → Option Ty) : List Operand → List Nat → Cl
  | [x], [t] => match T t with
    | some ⟨.map _ _, _⟩ => ⟨clrR (rdOf x)⟩
    | _ => clNo
  | _, _ => clNo
theorem clClr_ok {T : Nat → Option Ty} (hT : TTok P T) {o : Oper} {xs : Array Operand} {ats : Array TypeId} (ho : o.op = .call { callee := .builtin .clear, args := xs, argTypes := ats }) : Cl.ok P ρ N o (clClr T xs.toList ats.toList) := fun ch F h c g a w _ e hF hr => by
  have he := exec_builtin (a := a) ho
  unfold clClr at e
  split at e
  · rename_i l1 l2 x t hx ht
    have hx : xs = #[x] := by rw [← Array.toArray_toList (xs := xs), hx]
    have ht : ats = #[t] := by rw [← Array.toArray_toList (xs := ats), ht]
    subst hx; subst ht
    split at e
    · rename_i kt el i hs
      exact Did.val (s := Builtin.clear_ #[t] o.type #[a.eval x]) (by rw [he, show (#[x].map a.eval) = #[a.eval x] from by simp]; rfl) (aClr_ok (hT _ _ hs).1 e (rdOf_ok hF x) hr)
    · exact Bool.noConfusion (show false = true from e)
  · exact Bool.noConfusion (show false = true from e)
def appIR (z b : Nat) (zs : List AV) (x y : Rd) (_ : CH) (F : NT) (h : Hp) (c : AV → Hp → Bool) : Bool := tall (aAppI z b zs (x.get F) (y.get F) h c)
def clAppI (T : Nat → Option Ty) : List Operand → List Nat → Cl
  | [x, y], [t, u] => match T t, T u with
    | some ⟨.slice el, _⟩, some ⟨.int _, _⟩ => match T el with
      | some ty => match ty.info.zero, zeroFits ty.info with
        | some z, true => ⟨appIR ty.info.size ty.info.bytes (ofCells z) (rdOf x) (rdOf y)⟩
        | _, _ => clNo
      | none => clNo
    | _, _ => clAppend T [x, y] [t, u]
  | l, m => clAppend T l m
theorem clAppI_ok {T : Nat → Option Ty} (hT : TTok P T) {o : Oper} {xs : Array Operand} {ats : Array TypeId} (ho : o.op = .call { callee := .builtin .append, args := xs, argTypes := ats }) : Cl.ok P ρ N o (clAppI T xs.toList ats.toList) := by
  unfold clAppI
  split
  · rename_i l1 l2 x y t u hx ht
    rw [← hx, ← ht]
    split
    · rename_i el i k i' hs hu
      intro ch F h c g a w _ e hF hr
      have he := exec_builtin (a := a) ho
      have hx : xs = #[x, y] := by rw [← Array.toArray_toList (xs := xs), hx]
      have ht : ats = #[t, u] := by rw [← Array.toArray_toList (xs := ats), ht]
      subst hx; subst ht
      split at e
      · rename_i ty hy
        split at e
        · rename_i z hz hf
          obtain ⟨z2, z3⟩ := zeroFits_some hf hz
          exact Did.val (s := Builtin.append_ #[t, u] o.type #[a.eval x, a.eval y]) (by rw [he, show (#[x, y].map a.eval) = #[a.eval x, a.eval y] from by simp]; rfl) (aAppI_ok (hT _ _ hs).1 (hT _ _ hy).2 hz (hT _ _ hu).1 z2 z3 (ofCells_ok z g) hr (rdOf_ok hF x) (rdOf_ok hF y) e)
        · exact Bool.noConfusion (show false = true from e)
      · exact Bool.noConfusion (show false = true from e)
    · exact clAppend_ok hT ho
  · exact clAppend_ok hT ho
def aCopy3 (z : Nat) (l : L) (o : Nat) (m : Nat) (h : Hp) (c : AV → Hp → Bool) (ps : List (List AV)) : Bool :=
  (h.get l).cellsK fun z' u np t => both (Nat.beq z' z) (both (Nat.beq (Nat.mod o z) (nat_lit 0)) (both (Nat.ble (Nat.add (Nat.div o z) m) np) (putpK ps t (Nat.div o z) fun t => h.set l (.cells z u np t) fun h => lenR m h c)))
def aCopy2 (z : Nat) (l : L) (o : Nat) (l' : L) (o' : Nat) (h : Hp) (c : AV → Hp → Bool) (m : Nat) : Bool :=
  sel (Nat.beq m (nat_lit 0)) (lenR (nat_lit 0) h c) ((h.get l').cellsK fun z' _ np t => both (Nat.beq z' z) (both (Nat.beq (Nat.mod o' z) (nat_lit 0)) (both (Nat.ble (Nat.add (Nat.div o' z) m) np) (aCopy3 z l o m h c (pcsL t m (Nat.div o' z))))))
def aCopy (z : Nat) (x y : AV) (h : Hp) (c : AV → Hp → Bool) : Bool := both (Nat.ble (nat_lit 1) z) (x.sliceK (y.sliceK (lenR (nat_lit 0) h c) fun _ _ _ _ => lenR (nat_lit 0) h c) fun l o n _ => y.sliceK (lenR (nat_lit 0) h c) fun l' o' n' _ => aCopy2 z l o l' o' h c (minN n' n))
theorem copy_none {t u el e' ty : TypeId} {i : TypeInfo} {w : World} (ht : P.underlying t = some (.slice el)) (hi : P.info? el = some i) {a b : Option Addr} {n k n' k' : Nat} (hm : Nat.min n' n = 0) :
    (Builtin.copy_ #[t, u] ty #[.slice a n k, .slice b n' k']).run P w = .ok (goInt 0) w := by
  cases a <;> cases b <;> simp [Builtin.copy_, run_underlying ht, Builtin.lenOf, Builtin.firstCells, sizeOf, typeInfo, hi, hm, loadCells, loadCellsFrom, storeCells]
theorem aCopy_ok {t u el e' ty : TypeId} {i : TypeInfo} {g : G} {h : Hp} {w : World} {x y : AV} {xv yv : Value} {c : AV → Hp → Bool} (ht : P.underlying t = some (.slice el)) (hi : P.info? el = some i) (hr : HR ρ g h w) (hx : VR ρ g x xv) (hy : VR ρ g y yv)
    (e : aCopy i.size x y h c = true) : Eff P ρ g h w (Builtin.copy_ #[t, u] ty #[xv, yv]) c := by
  obtain ⟨ez, e⟩ := both_true e
  have ez : 1 ≤ i.size := ble_true ez
  have zero : ∀ {a b : Option Addr} {n k n' k' : Nat}, Nat.min n' n = 0 → xv = .slice a n k → yv = .slice b n' k' → lenR 0 h c = true → Eff P ρ g h w (Builtin.copy_ #[t, u] ty #[xv, yv]) c := fun hm h1 h2 e => by
    obtain ⟨a, ha, e⟩ := lenR_true (g := g) (ρ := ρ) e
    subst h1; subst h2
    exact ⟨a, _, g, h, w, copy_none (e' := e') ht hi hm, Step.refl hr, ha, e⟩
  rcases AV.sliceK_true (v := x) e with ⟨rfl, e1⟩ | ⟨l, o, n, k, rfl, e1⟩
  · have := hx.inv_nils
    rcases AV.sliceK_true (v := y) e1 with ⟨rfl, e2⟩ | ⟨l', o', n', k', rfl, e2⟩
    · exact zero (by simp) this hy.inv_nils e2
    · obtain ⟨a, q, hq⟩ := hy.len
      exact zero (by simp) this hq e2
  · rcases AV.sliceK_true (v := y) e1 with ⟨rfl, e2⟩ | ⟨l', o', n', k', rfl, e2⟩
    · obtain ⟨a, q, hq⟩ := hx.len
      exact zero (by simp) hq hy.inv_nils e2
    · have hmm : minN n' n = Nat.min n' n := minN_eq n' n
      rcases sel_true (show sel (Nat.beq (minN n' n) 0) _ _ = true from e2) with ⟨e3, e4⟩ | ⟨e3, e4⟩
      · obtain ⟨a, q, hq⟩ := hx.len
        obtain ⟨a', q', hq'⟩ := hy.len
        exact zero (by rw [← hmm]; exact beq_true e3) hq hq' e4
      · have e3 : minN n' n ≠ 0 := beq_false e3
        generalize hm : minN n' n = m at *
        have hmn : m ≤ n ∧ m ≤ n' := by rw [hmm]; exact ⟨Nat.min_le_right _ _, Nat.min_le_left _ _⟩
        have key : ∀ {l : L} {o n k : Nat} {v : Value}, VR ρ g (.slice l o n k) v → m ≤ n → ∃ b b0 q, g.blk l = some (b, b0) ∧ v = .slice (some ⟨b, b0 + o, none⟩) n q := fun hv hn => by
          cases hv with
          | slice _ _ _ q b c hb => exact ⟨b, c, q, hb, rfl⟩
          | slicu _ _ _ q b c hb => exact ⟨b, c, q, hb, rfl⟩
          | slice0 _ _ a _ _ => omega
          | slicez _ _ a => omega
        obtain ⟨b, b0, q, hb, rfl⟩ := key hx hmn.1
        obtain ⟨b', b0', q', hb', rfl⟩ := key hy hmn.2
        obtain ⟨z', u1, np, tr, ho, e5⟩ := AO.cellsK_true e4
        obtain ⟨f1, e6⟩ := both_true e5
        have f1' := beq_true f1
        subst f1'
        obtain ⟨f2', e7⟩ := both_true e6
        have f2 : o' % i.size = 0 := beq_true f2'
        obtain ⟨f3', e8⟩ := both_true e7
        have f3 : o' / i.size + m ≤ np := ble_true f3'
        obtain ⟨z2, u2, np2, tr2, ho2, e9⟩ := AO.cellsK_true e8
        obtain ⟨f4, e10⟩ := both_true e9
        have f4' := beq_true f4
        subst f4'
        obtain ⟨f5', e11⟩ := both_true e10
        have f5 : o % i.size = 0 := beq_true f5'
        obtain ⟨f6', e12⟩ := both_true e11
        have f6 : o / i.size + m ≤ np2 := ble_true f6'
        obtain ⟨t', e13, g1, g2⟩ := putpK_true e12
        obtain ⟨h', e14, hn, hg, hfl⟩ := Hp.set_true e13
        have g1 : ∀ (p : Nat) (x : List AV), (pcsL tr m (o' / i.size))[p]? = some x → t'.get (o / i.size + p) = x := g1
        have g2 : ∀ (p : Nat), (p < o / i.size ∨ o / i.size + (pcsL tr m (o' / i.size)).length ≤ p) → t'.get p = tr2.get p := g2
        obtain ⟨vs, v1, v2⟩ := hr.pieces hb' ho f3
        have hob := hr.ob l b b0 hb
        rw [ho2] at hob
        have hroom := hob.room
        obtain ⟨cs, el', fz, k1, k2, k3, k4, k5, ⟨k6, k6'⟩, kq, k7, k8⟩ := hob
        have hl : vs.length = m * i.size := by rw [v1.1, pcsL_length]
        have hoz := mod_div f5
        have hoz' := mod_div f2
        have hmul : (o / i.size + m) * i.size ≤ np2 * i.size := Nat.mul_le_mul_right _ f6
        rw [Nat.add_mul, hoz] at hmul
        have hst : Step ρ g h w g h' (w.setCells b (b0 + o) vs) := hr.putV hb ho2 vs o (by omega) v1.2.1 (fun p a hp => by
          unfold cellOf at hp
          split at hp
          case isFalse => cases hp
          case isTrue hp1 =>
          have hpd := Nat.div_add_mod p i.size
          have hpm := Nat.mod_lt p k6
          by_cases hin : o / i.size ≤ p / i.size ∧ p / i.size < o / i.size + (pcsL tr m (o' / i.size)).length
          · obtain ⟨x, hx⟩ : ∃ x, (pcsL tr m (o' / i.size))[p / i.size - o / i.size]? = some x := ⟨_, List.getElem?_eq_getElem (by omega)⟩
            have hg1 := g1 _ _ hx
            rw [show o / i.size + (p / i.size - o / i.size) = p / i.size from by omega] at hg1
            rw [hg1] at hp
            obtain ⟨v, w1, w2⟩ := (v1.2.2 _ _ hx).2 _ _ hp
            have hd := at_div (i := 0) (o := p) (q := o / i.size) k6 hin.1
            rw [hoz] at hd
            have hlt := (List.getElem?_eq_some_iff.1 w1).1
            exact .inl ⟨by omega, by omega, v, by rw [← w1]; congr 1; omega, w2⟩
          · rw [g2 _ (by omega)] at hp
            refine .inr ⟨fun hc => hin ?_, by rw [cellOf_at hp1]; exact hp⟩
            rw [pcsL_length]
            constructor
            · rw [Nat.le_div_iff_mul_le k6, hoz]; exact hc.1
            · rw [Nat.div_lt_iff_lt_mul k6, Nat.add_mul, hoz]; omega) (fun p hp => by
          by_cases hin : o / i.size ≤ p ∧ p < o / i.size + (pcsL tr m (o' / i.size)).length
          · obtain ⟨x, hx⟩ : ∃ x, (pcsL tr m (o' / i.size))[p - o / i.size]? = some x := ⟨_, List.getElem?_eq_getElem (by omega)⟩
            have hg1 := g1 _ _ hx
            rw [show o / i.size + (p - o / i.size) = p from by omega] at hg1
            rw [hg1]
            exact (v1.2.2 _ _ hx).1
          · rw [g2 _ (by omega)]; exact kq p hp) hn hg hfl
        obtain ⟨a, ha, e15⟩ := lenR_true (g := g) (ρ := ρ) e14
        refine ⟨a, _, g, h', _, ?_, hst, ha, e15⟩
        have hld := run_loadCells_list (P := P) w ⟨b', b0' + o', none⟩ vs (fun j v hj => by
          have := v2 j v hj
          rw [hoz'] at this
          rw [add_plain]
          exact this)
        have hsc := run_storeCells_at0 (P := P) (w := w) (b := b) (o := b0 + o) (vs := vs) (fun j hj => by have := hroom (o + j) (by omega); rwa [← Nat.add_assoc] at this) v1.2.1
        have hnm : Nat.min n' n = m := hmm.symm
        rw [hl] at hld
        simp [Builtin.copy_, run_underlying ht, Builtin.lenOf, Builtin.firstCells, sizeOf, typeInfo, hi, hnm, hld, hsc, Result.andThen]
def copyR (z : Nat) (x y : Rd) (_ : CH) (F : NT) (h : Hp) (c : AV → Hp → Bool) : Bool := tall (aCopy z (x.get F) (y.get F) h c)
def clCopy (T : Nat → Option Ty) : List Operand → List Nat → Cl
  | [x, y], [t, u] => match T t, T u with
    | some ⟨.slice el, _⟩, some ⟨.slice _, _⟩ => match T el with
      | some ty => ⟨copyR ty.info.size (rdOf x) (rdOf y)⟩
      | none => clNo
    | _, _ => clNo
  | _, _ => clNo
theorem clCopy_ok {T : Nat → Option Ty} (hT : TTok P T) {o : Oper} {xs : Array Operand} {ats : Array TypeId} (ho : o.op = .call { callee := .builtin .copy, args := xs, argTypes := ats }) : Cl.ok P ρ N o (clCopy T xs.toList ats.toList) := fun ch F h c g a w _ e hF hr => by
  have he := exec_builtin (a := a) ho
  unfold clCopy at e
  split at e
  · rename_i l1 l2 x y t u hx ht
    have hx : xs = #[x, y] := by rw [← Array.toArray_toList (xs := xs), hx]
    have ht : ats = #[t, u] := by rw [← Array.toArray_toList (xs := ats), ht]
    subst hx; subst ht
    split at e
    · rename_i el i e' i' hs hu
      split at e
      · rename_i ty hy
        exact Did.val (s := Builtin.copy_ #[t, u] o.type #[a.eval x, a.eval y]) (by rw [he, show (#[x, y].map a.eval) = #[a.eval x, a.eval y] from by simp]; rfl) (aCopy_ok (e' := e') (hT _ _ hs).1 (hT _ _ hy).2 hr (rdOf_ok hF x) (rdOf_ok hF y) e)
      · exact Bool.noConfusion (show false = true from e)
    · exact Bool.noConfusion (show false = true from e)
  · exact Bool.noConfusion (show false = true from e)
def aIdx1 (n z : Nat) (x : AV) (h : Hp) (c : AV → Hp → Bool) (m : Nat) : Bool := both (Nat.ble (Nat.succ m) n) (aPart1 (Nat.mul m z) x h c)
def aIdxN (n z : Nat) (x : AV) (h : Hp) (c : AV → Hp → Bool) (m : Nat) : Bool := both (Nat.ble (Nat.succ m) n) (aPartN (Nat.mul m z) z x h c)
def aIdxA1 (n z : Nat) (x y : AV) (h : Hp) (c : AV → Hp → Bool) : Bool := y.idxK (aIdx1 n z x h c)
def aIdxAN (n z : Nat) (x y : AV) (h : Hp) (c : AV → Hp → Bool) : Bool := y.idxK (aIdxN n z x h c)
def idx1R (n z : Nat) (x y : Rd) (_ : CH) (F : NT) (h : Hp) (c : AV → Hp → Bool) : Bool := tall (aIdxA1 n z (x.get F) (y.get F) h c)
def idxNR (n z : Nat) (x y : Rd) (_ : CH) (F : NT) (h : Hp) (c : AV → Hp → Bool) : Bool := tall (aIdxAN n z (x.get F) (y.get F) h c)
def clIdx (T : Nat → Option Ty) (t : Nat) (x y : Operand) : Cl := match T t with
  | some ⟨.array n el, _⟩ => match T el with
    | some ty => match isAggD ty.und with
      | true => ⟨idxNR n ty.info.size (rdOf x) (rdOf y)⟩
      | false => ⟨idx1R n ty.info.size (rdOf x) (rdOf y)⟩
    | none => clNo
  | _ => clIndex T t x y
theorem run_index_array {t el : TypeId} {n m : Nat} {k : IntKind} {i : TypeInfo} {xv : Value} {w : World} (ht : P.underlying t = some (.array n el)) (hi : P.info? el = some i) (hm : m < n) (hx : ∃ cs, xv = .agg cs) :
    (Instr.index t xv (.int k (m : Int))).run P w = (do part el (← asAgg xv) (m * i.size) : Sem Value).run P w := by
  obtain ⟨cs, rfl⟩ := hx
  have h1 : (m : Int) < (n : Int) := by omega
  simp [Instr.index, asIntOf, run_underlying ht, sizeOf, typeInfo, hi, h1, asAgg, Result.andThen, (show ¬ n ≤ m by omega)]
theorem clIdx_pur {T : Nat → Option Ty} (hT : TTok P T) {g : G} {h : Hp} {w : World} {t : TypeId} {x y : Operand} {n el : Nat} {it : Ti} {ty : Ty} {ch : CH} {c : AV → Hp → Bool} {F : NT} {a : Act} (hs : T t = some ⟨.array n el, it⟩) (hy : T el = some ty)
    (e : (match isAggD ty.und with | true => idxNR n ty.info.size (rdOf x) (rdOf y) ch F h c | false => idx1R n ty.info.size (rdOf x) (rdOf y) ch F h c) = true) (hF : FR ρ g N F a.tmps) (hr : HR ρ g h w) : Pur P ρ g h w (Instr.index t (a.eval x) (a.eval y)) c := by
  have agg : ∀ {n : Nat} {l : List AV} {v : Value}, VR ρ g (.agg n l) v → ∃ cs, v = .agg cs := fun hv => by cases hv with | agg _ _ cs => exact ⟨cs, rfl⟩
  split at e
  · rename_i hb
    obtain ⟨k, m, hm, e⟩ := AV.idxK_true e (rdOf_ok hF y)
    obtain ⟨e1, e⟩ := both_true e
    have e1 : m + 1 ≤ n := ble_true e1
    obtain ⟨n', l, hl, _⟩ := AV.aggK_true (v := (rdOf x).get F) e
    have hxv := rdOf_ok (a := a) hF x
    obtain ⟨av, v, r1, r2, r3⟩ := aPartN_ok (P := P) (t := el) (w := w) (by rw [run_isAggD (hT _ _ hy).1, hb]) (hT _ _ hy).2 rfl e hxv
    rw [hl] at hxv
    exact ⟨av, v, by rw [hm, run_index_array (hT _ _ hs).1 (hT _ _ hy).2 (by omega) (agg hxv)]; exact r1, r2, r3⟩
  · rename_i hb
    obtain ⟨k, m, hm, e⟩ := AV.idxK_true e (rdOf_ok hF y)
    obtain ⟨e1, e⟩ := both_true e
    have e1 : m + 1 ≤ n := ble_true e1
    obtain ⟨n', l, hl, _⟩ := AV.aggK_true (v := (rdOf x).get F) e
    have hxv := rdOf_ok (a := a) hF x
    obtain ⟨av, v, r1, r2, r3⟩ := aPart1_ok (P := P) (t := el) (w := w) (by rw [run_isAggD (hT _ _ hy).1, hb]) e hxv
    rw [hl] at hxv
    exact ⟨av, v, by rw [hm, run_index_array (hT _ _ hs).1 (hT _ _ hy).2 (by omega) (agg hxv)]; exact r1, r2, r3⟩
theorem clIdx_ok {T : Nat → Option Ty} (hT : TTok P T) {o : Oper} {t : TypeId} {x y : Operand} (ho : o.op = .index t x y) : Cl.ok P ρ N o (clIdx T t x y) := by
  unfold clIdx
  split
  · rename_i n el it hs
    split
    · rename_i ty hy
      intro ch F h c g a w _ e hF hr
      refine Did.pur (s := Instr.index t (a.eval x) (a.eval y)) hr (by simp [execOp, ho]) (clIdx_pur (ch := ch) hT hs hy ?_ hF hr)
      cases hb : isAggD ty.und <;> rw [hb] at e <;> exact e
    · exact clNo_ok
  · exact clIndex_ok hT ho
def callV1 (Fs : FsT) (la : List AV) (ch : CH) (h : Hp) (c : AV → Hp → Bool) (f : Fn) (first cap : List AV) : Bool :=
  Fn.rec (motive := fun _ => Bool) (fun g => both (bitD Fs.dyn g) (ch g (first ++ (la ++ cap)) h c)) (fun _ => false) (fun _ _ => false) (fun _ _ _ _ => false) (fun _ => false) f
def ylK (v : AV) (y : L → Bool) : Bool := match v with
  | .yl l => y l
  | _ => false
theorem ylK_true {v : AV} {y : L → Bool} (h : ylK v y = true) : ∃ l, v = .yl l ∧ y l = true := by
  unfold ylK at h
  split at h
  · exact ⟨_, rfl, h⟩
  · cases h
def aCallV (Fs : FsT) (x : AV) (la : List AV) (ch : CH) (h : Hp) (c : AV → Hp → Bool) : Bool := sel (ylK x fun _ => true) (ch YL (x :: la) h c) (x.fnK (callV1 Fs la ch h c))
def callVR (Fs : FsT) (r : Rd) (l : List Rd) (ch : CH) (F : NT) (h : Hp) (c : AV → Hp → Bool) : Bool := tall (aCallV Fs (r.get F) (rdsK l F) ch h c)
theorem callV_ok {Fs : FsT} (hFs : FTok P ρ Fs) {o : Oper} {x : Operand} {xs : Array Operand} {ats : Array TypeId} (ho : o.op = .call { callee := .value x, args := xs, argTypes := ats }) : Cl.ok P ρ N o ⟨callVR Fs (rdOf x) (xs.toList.map rdOf)⟩ := fun ch F h c g a w hch e hF hr => by
  have hv := rdsK_ok hF xs.toList
  have hx := rdOf_ok (a := a) hF x
  have he : execOp a.eval o = (do let d ← Deferred.ofValue (a.eval x) (xs.map a.eval); invoke d.target d.args) := by
    obtain ⟨dst, op, ty, pos, after, guard⟩ := o
    simp only at ho
    subst ho
    rfl
  rcases sel_true (show sel (ylK ((rdOf x).get F) fun _ => true) _ _ = true from e) with ⟨e1, e2⟩ | ⟨e1, e2⟩
  · obtain ⟨l, hl, _⟩ := ylK_true e1
    rw [hl] at hx e2
    generalize hav : a.eval x = xv at hx
    cases hx with
    | yl _ b hb =>
      have := hch.2 l b _ (xs.map a.eval) g h w c e2 hb (by simpa using hv) hr
      intro K hn
      obtain ⟨f, tmps, asg, body, r1, r2⟩ := this
      rw [he, hav]
      simp only [Deferred.ofValue, Sem.run_bind, Sem.run_pure, Result.andThen_ok, invoke]
      rw [show #[] ++ xs.map a.eval = xs.map a.eval from by simp, r1]
      exact r2.mono fun e' w' ⟨v, h1, av, g', h', h2, h3, h4⟩ => ⟨v, h1, hn av v g' h' w' h2 h3 h4⟩
  · obtain ⟨f, fa, fb, hf, e3⟩ := AV.fnK_true e2
    rw [hf] at hx
    generalize hav : a.eval x = xv at hx
    cases hx with
    | fn _ _ _ a' b' ha hb =>
      cases f with
      | func gf =>
        have e4 : both (bitD Fs.dyn gf) (ch gf (fa ++ (rdsK (xs.toList.map rdOf) F ++ fb)) h c) = true := e3
        obtain ⟨e5, e7⟩ := both_true e4
        obtain ⟨d1, d2, d3⟩ := hFs.dy gf e5
        have hrun : (execOp a.eval o).run P w = .ok (.enter gf (a' ++ xs.map a.eval ++ b')) w := by
          rw [he, hav]
          simp only [Deferred.ofValue, Sem.run_bind, Sem.run_pure, Result.andThen_ok, invoke]
          exact d1 _ _
        refine Did.call hrun (hch.1 gf _ _ g h w c d2 d3 e7 ?_ hr)
        have := ha.append ((VRs.append (show VRs ρ g _ (xs.map a.eval).toList from by simpa using hv) hb))
        simpa [Array.append_assoc] using this
      | _ => exact Bool.noConfusion (show false = true from e3)
def isPtrD : TypeDesc → Bool
  | .pointer _ => true
  | _ => false
def fnGood (Fs : FsT) (f : Nat) : Bool := bitD Fs.dyn f
def invOf (T : Nat → Option Ty) (Fs : FsT) (name : String) (t : Nat) : Option (Nat × Option Nat) := match T t with
  | none => none
  | some y => match y.info.methods.find? (·.name == name) with
    | none => none
    | some m => match m.path.toList, m.func with
      | [], some (f, pr) => match (isPtrD y.und == pr) && fnGood Fs f with
        | true => some (f, none)
        | false => none
      | [s], some (f, true) => match s.deref, T s.struct with
        | true, some ⟨.struct fs, _⟩ => match fs[s.index]? with
          | none => none
          | some fd => match T fd.type with
            | none => none
            | some yf => match !(isPtrD yf.und) && Nat.ble 1 yf.info.size && fnGood Fs f with
              | true => some (f, some fd.offset)
              | false => none
        | _, _ => none
      | _, _ => none
def inv3 (f off : Nat) (la : List AV) (ch : CH) (h : Hp) (c : AV → Hp → Bool) (l : L) (o : Nat) : Bool := ch f (.ptr l (Nat.add o off) :: la) h c
def inv2 (v : AV) (la : List AV) (ch : CH) (h : Hp) (c : AV → Hp → Bool) (f : Nat × Option Nat) : Bool := Option.rec (motive := fun _ => Bool) (ch f.1 (v :: la) h c) (fun off => v.ptrK (inv3 f.1 off la ch h c)) f.2
def inv1 (T : Nat → Option Ty) (Fs : FsT) (name : String) (la : List AV) (ch : CH) (h : Hp) (c : AV → Hp → Bool) (t : Nat) (v : AV) : Bool := Option.rec (motive := fun _ => Bool) false (inv2 v la ch h c) (invOf T Fs name t)
def aInv (T : Nat → Option Ty) (Fs : FsT) (name : String) (x : AV) (la : List AV) (ch : CH) (h : Hp) (c : AV → Hp → Bool) : Bool := x.ifaceK false (inv1 T Fs name la ch h c)
def invR (T : Nat → Option Ty) (Fs : FsT) (name : String) (r : Rd) (l : List Rd) (ch : CH) (F : NT) (h : Hp) (c : AV → Hp → Bool) : Bool := tall (aInv T Fs name (r.get F) (rdsK l F) ch h c)
theorem run_receiver {t : TypeId} {d : TypeDesc} {v : Value} {pr : Bool} {n : Option String} {w : World} (ht : P.underlying t = some d) (hp : (isPtrD d == pr) = true) : (receiverAt t (.val v) pr n).run P w = .ok v w := by
  cases d <;> cases pr <;> first | (exact Bool.noConfusion (show false = true from hp)) | simp [receiverAt, run_underlying ht, Place.get, Result.andThen]
theorem fnGood_ok {Fs : FsT} (hFs : FTok P ρ Fs) {f : Nat} (h : fnGood Fs f = true) : (∀ (args : Array Value) (w : World), (callFunc f args).run P w = .ok (.enter f args) w) ∧ P.funcs[f]? ≠ none ∧ f ≠ YL := hFs.dy f h
theorem run_invoke {T : Nat → Option Ty} {Fs : FsT} (hT : TTok P T) (hFs : FTok P ρ Fs) {name : String} {t f : Nat} {off : Option Nat} {v u : Value} {args : Array Value} {w : World} (h : invOf T Fs name t = some (f, off))
    (hv : (off = none ∧ u = v) ∨ ∃ n a, off = some n ∧ v = .pointer (some a) ∧ u = .pointer (some (a.add n))) :
    (callMethod (.iface t v) name args).run P w = .ok (.enter f (#[u] ++ args)) w ∧ P.funcs[f]? ≠ none ∧ f ≠ YL := by
  unfold invOf at h
  split at h
  · cases h
  · rename_i y hy
    split at h
    · cases h
    · rename_i m hm
      have hdp : 0 < Made.depth := by decide
      obtain ⟨k, hk⟩ : ∃ k, P.types.size + Made.depth = k + 1 := ⟨P.types.size + Made.depth - 1, by omega⟩
      split at h
      · rename_i f' pr hpath hfunc
        split at h
        · rename_i hb
          cases h
          simp only [Bool.and_eq_true] at hb
          obtain ⟨q1, q2⟩ := hb
          obtain ⟨c1, c2, c3⟩ := fnGood_ok hFs q2
          rcases hv with ⟨_, rfl⟩ | ⟨n, a, hn, _⟩
          · refine ⟨?_, c2, c3⟩
            have hpath' : m.path = #[] := by rw [← Array.toArray_toList (xs := m.path), hpath]
            have hmeth : ∀ k, (method (k + 1) t u name).run P w = .ok (f, u) w := fun k => by
              have hrec : ∀ n, (receiverAt t (.val u) pr n).run P w = .ok u w := fun n => run_receiver (hT _ _ hy).1 q1
              simp [method, typeInfo, (hT _ _ hy).2, hm, hpath', follow, hfunc, hrec, Result.andThen]
            simp only [callMethod, Sem.run_bind, program, Sem.run, Result.andThen_ok, hk, hmeth k, c1]
          · cases hn
        · cases h
      · rename_i s f' hpath hfunc
        split at h
        · rename_i fs i hd hs
          split at h
          · cases h
          · rename_i fd hfd
            split at h
            · cases h
            · rename_i yf hyf
              split at h
              · rename_i hb
                cases h
                simp only [Bool.and_eq_true, Bool.not_eq_true'] at hb
                obtain ⟨⟨q1, q2⟩, q3⟩ := hb
                obtain ⟨c1, c2, c3⟩ := fnGood_ok hFs q3
                rcases hv with ⟨hn, _⟩ | ⟨n, a, hn, rfl, rfl⟩
                · cases hn
                · cases hn
                  refine ⟨?_, c2, c3⟩
                  have hsz : yf.info.size ≠ 0 := by have := Nat.le_of_ble_eq_true q2; omega
                  have hne : m.path.isEmpty = false := by
                    have : m.path.toList ≠ [] := by rw [hpath]; simp
                    cases he : m.path.isEmpty with
                    | false => rfl
                    | true => exact absurd (by simpa using he) this
                  have hmeth : ∀ k, (method (k + 1) t (.pointer (some a)) name).run P w = .ok (f, .pointer (some (a.add fd.offset))) w := fun k => by
                    have hrec : ∀ n, (receiverAt fd.type (.var (a.add fd.offset)) true n).run P w = .ok (.pointer (some (a.add fd.offset))) w := fun n => by
                      cases hu : yf.und <;> rw [hu] at q1 <;> first | (exact Bool.noConfusion (show true = false from q1)) | simp [receiverAt, run_underlying ((hT _ _ hyf).1.trans (by rw [hu])), Place.get, Result.andThen]
                    have hfol : (follow m.path.toList t (.val (.pointer (some a)))).run P w = .ok (fd.type, .var (a.add fd.offset)) w := by
                      rw [hpath]
                      simp [follow, run_underlying (hT _ _ hs).1, hfd, hd, Place.get, asAddr, fieldPlace, sizeOf, typeInfo, (hT _ _ hyf).2, hsz, Result.andThen]
                    simp [method, typeInfo, (hT _ _ hy).2, hm, hfol, hfunc, hrec, Result.andThen]
                  simp only [callMethod, Sem.run_bind, program, Sem.run, Result.andThen_ok, hk, hmeth k, c1]
              · cases h
        · cases h
      · cases h
theorem inv_ok {T : Nat → Option Ty} {Fs : FsT} (hT : TTok P T) (hFs : FTok P ρ Fs) {o : Oper} {x : Operand} {name : String} {xs : Array Operand} {ats : Array TypeId} (ho : o.op = .call { callee := .invoke x name, args := xs, argTypes := ats }) : Cl.ok P ρ N o ⟨invR T Fs name (rdOf x) (xs.toList.map rdOf)⟩ := fun ch F h c g a w hch e hF hr => by
  have hv := rdsK_ok hF xs.toList
  have hx := rdOf_ok (a := a) hF x
  have he : execOp a.eval o = invoke (.fn (.method name) #[]) (#[a.eval x] ++ xs.map a.eval) := by
    obtain ⟨dst, op, ty, pos, after, guard⟩ := o
    simp only at ho
    subst ho
    rfl
  rcases AV.ifaceK_true (v := (rdOf x).get F) e with ⟨_, e⟩ | ⟨t, v, hi, e⟩
  · exact Bool.noConfusion e
  · rw [hi] at hx
    obtain ⟨u, hu, hvr⟩ := hx.inv_iface
    cases hf : invOf T Fs name t with
    | none =>
      have e : Option.rec (motive := fun _ => Bool) false (inv2 v (rdsK (xs.toList.map rdOf) F) ch h c) (invOf T Fs name t) = true := e
      rw [hf] at e; exact Bool.noConfusion e
    | some fo =>
      have e : Option.rec (motive := fun _ => Bool) false (inv2 v (rdsK (xs.toList.map rdOf) F) ch h c) (invOf T Fs name t) = true := e
      rw [hf] at e
      obtain ⟨f, off⟩ := fo
      obtain ⟨v2, u2, hvr, e, hvu⟩ : ∃ v2 u2, VR ρ g v2 u2 ∧ ch f (v2 :: rdsK (xs.toList.map rdOf) F) h c = true ∧ ((off = none ∧ u2 = u) ∨ ∃ n a, off = some n ∧ u = .pointer (some a) ∧ u2 = .pointer (some (a.add n))) := by
        cases off with
        | none => exact ⟨v, u, hvr, e, .inl ⟨rfl, rfl⟩⟩
        | some n =>
          obtain ⟨l, o, rfl, e⟩ := AV.ptrK_true (v := v) e
          cases hvr with
          | ptr _ _ b c' hb =>
            refine ⟨.ptr l (Nat.add o n), .pointer (some ⟨b, c' + (o + n), none⟩), .ptr l _ b c' hb, e, .inr ⟨n, _, rfl, rfl, ?_⟩⟩
            simp [Addr.add, Nat.add_assoc]
      obtain ⟨r1, r2, r3⟩ := run_invoke (P := P) (args := xs.map a.eval) (w := w) hT hFs hf hvu
      refine Did.call (f := f) (args := #[u2] ++ xs.map a.eval) ?_ (hch.1 f _ _ g h w c r2 r3 e ?_ hr)
      · rw [he, hu]
        have h0 : (#[Value.iface t u] ++ xs.map a.eval)[0]? = some (Value.iface t u) := by
          rw [Array.getElem?_append_left (by simp)]; rfl
        have h1 : (#[Value.iface t u] ++ xs.map a.eval).extract 1 (#[Value.iface t u] ++ xs.map a.eval).size = xs.map a.eval := by
          apply Array.ext'
          rw [Array.toList_extract, List.extract_eq_take_drop]
          simp only [Array.toList_append, List.cons_append, List.nil_append, List.drop_succ_cons, List.drop_zero]
          rw [List.take_of_length_le (by simp)]
        simp only [invoke, h0, h1]
        exact r1
      · have := VRs.cons _ _ _ _ hvr hv
        simpa using this
end
end Ev
end Go.Proofs.YticoibkgeejkoaaGreatDoor
namespace Go.Proofs.YticoibkgeejkoaaGreatDoor
namespace Ev
set_option linter.unusedVariables false
noncomputable section
variable {ρ : Nat → Value} {P : Program} {N : Nat}
def AO.iy (l : L) (s k a : Nat) (y : L → Nat → Nat → Nat → Bool) : Bool := y l s k a
def AO.itK (x : AO) (y : L → Nat → Nat → Nat → Bool) : Bool :=
  AO.rec (motive := fun _ => (L → Nat → Nat → Nat → Bool) → Bool) (fun _ => false) (fun _ _ _ _ _ => false) (fun _ _ _ _ => false) (fun _ _ _ _ => false) AO.iy (fun _ _ _ _ _ _ _ _ => false) x y
theorem AO.itK_true {x : AO} {y : L → Nat → Nat → Nat → Bool} (h : x.itK y = true) : ∃ l s k a, x = .mapIt l s k a ∧ y l s k a = true := by
  cases x <;> first | exact ⟨_, _, _, _, rfl, h⟩ | exact Bool.noConfusion (show false = true from h)
def rng1 (h : Hp) (c : AV → Hp → Bool) (h' : Hp) : Bool := c (.ptr h.nx (nat_lit 0)) h'
def rng2 (l : L) (h : Hp) (c : AV → Hp → Bool) (k : Nat) (_ : List Nat) (_ : List (AV × AV)) : Bool := h.new (.mapIt l k k (nat_lit 0)) (rng1 h c)
def rng3 (h : Hp) (c : AV → Hp → Bool) (l : L) : Bool := (h.get l).mapsK (rng2 l h c)
def aRng (x : AV) (h : Hp) (c : AV → Hp → Bool) : Bool := x.mapK false (rng3 h c)
def rangeR (x : Rd) (_ : CH) (F : NT) (h : Hp) (c : AV → Hp → Bool) : Bool := tall (aRng (x.get F) h c)
def clRange (T : Nat → Option Ty) (t : Nat) (x : Operand) : Cl := match T t with
  | some ⟨.map _ _, _⟩ => ⟨rangeR (rdOf x)⟩
  | _ => clNo
theorem clRange_ok {T : Nat → Option Ty} (hT : TTok P T) {o : Oper} {t : TypeId} {x : Operand} (ho : o.op = .range t x) : Cl.ok P ρ N o (clRange T t x) := fun ch F h c g a w _ e hF hr => by
  unfold clRange at e
  split at e
  · rename_i kt el i hs
    have hx := rdOf_ok (a := a) hF x
    rcases AV.mapK_true (v := (rdOf x).get F) e with ⟨_, e⟩ | ⟨m, hm, e⟩
    · exact Bool.noConfusion e
    · rw [hm] at hx
      obtain ⟨bm, cm, hb, hv⟩ := hx.inv_map
      obtain ⟨k, bs, es, ho', e⟩ := AO.mapsK_true e
      obtain ⟨h', e, hn, hg, hfl⟩ := Hp.new_true e
      have hob := hr.ob m bm cm hb
      rw [ho'] at hob
      obtain ⟨ms, h1, h2, h3, h4⟩ := hob
      have hle := G.ext_le hr.fresh w.heap.size 0 0 0
      have hor : OR ρ (g.ext h.nx w.heap.size 0 0 0) { w with heap := w.heap.push (.mapIter (some bm) k #[] k) } h.nx w.heap.size 0 0 0 (.mapIt m k k 0) :=
        ⟨rfl, bm, cm, (hle.1 _ _ hb).1, by rw [G.ext_it]; simp, fun _ => G.ext_it _ _ _ _ _ _, fun x hx => by cases hx⟩
      have hst := hr.new _ (.mapIter (some bm) k #[] k) 0 0 hn hg hfl hor
      refine Did.val (s := Instr.range t (a.eval x)) (by simp [execOp, ho]) ⟨_, .pointer (some ⟨w.heap.size, 0, none⟩), _, h', _, ?_, hst, ?_, e⟩
      · rw [hv]; exact run_range_map w t kt el bm ms k (hT _ _ hs).1 h1
      · have := VR.ptr (ρ := ρ) (g := g.ext h.nx w.heap.size 0 0 0) h.nx 0 w.heap.size 0 (g.ext_new _ _ _ _ _).1
        exact this
  · exact Bool.noConfusion (show false = true from e)
def fbN (_ : List (AV × AV)) (_ : Nat) (_ : AV × AV → Bool) : Bool := false
def fb1 (b : Nat) (ih : List (AV × AV) → Nat → (AV × AV → Bool) → Bool) (x : Nat) (y : AV × AV → Bool) (e : AV × AV) (es : List (AV × AV)) (_ : Bool) : Bool := sel (Nat.beq b x) (y e) (ih es x y)
def fb0 (b : Nat) (_ : List Nat) (ih : List (AV × AV) → Nat → (AV × AV → Bool) → Bool) (es : List (AV × AV)) (x : Nat) (y : AV × AV → Bool) : Bool := List.rec (motive := fun _ => Bool) false (fb1 b ih x y) es
def findB (bs : List Nat) (es : List (AV × AV)) (x : Nat) (y : AV × AV → Bool) : Bool := List.rec (motive := fun _ => List (AV × AV) → Nat → (AV × AV → Bool) → Bool) fbN fb0 bs es x y
theorem findB_true {g : G} : ∀ {bs : List Nat} {es : List (AV × AV)} {ms : List MapEntry} {x : Nat} {y : AV × AV → Bool}, findB bs es x y = true → ms.map (·.born) = bs → VRs ρ g (es.map (·.1)) (ms.map (·.key)) → VRs ρ g (es.map (·.2)) (ms.map (·.val)) →
    ∃ m e, ms.find? (·.born == x) = some m ∧ VR ρ g e.1 m.key ∧ VR ρ g e.2 m.val ∧ y e = true
  | [], es, ms, x, y, h, _, _, _ => Bool.noConfusion (show false = true from h)
  | b :: bs, [], ms, x, y, h, _, _, _ => Bool.noConfusion (show false = true from h)
  | b :: bs, e :: es, [], x, y, h, h1, _, _ => by cases h1
  | b :: bs, e :: es, m :: ms, x, y, h, h1, h2, h3 => by
    rw [List.map_cons, List.cons.injEq] at h1
    cases h2 with
    | cons _ _ _ _ a2 b2 =>
    cases h3 with
    | cons _ _ _ _ a3 b3 =>
    rcases sel_true (show sel (Nat.beq b x) (y e) (findB bs es x y) = true from h) with ⟨e1, e2⟩ | ⟨e1, e2⟩
    · refine ⟨m, e, ?_, a2, a3, e2⟩
      have := beq_true e1
      rw [List.find?_cons, show (m.born == x) = true from by rw [h1.1, this]; simp]
    · obtain ⟨m', e', f1, f2, f3, f4⟩ := findB_true e2 h1.2 b2 b3
      refine ⟨m', e', ?_, f2, f3, f4⟩
      have := beq_false e1
      rw [List.find?_cons, show (m.born == x) = false from by rw [h1.1]; simpa using this]
      exact f1
def ent1 (h : Hp) (c : AV → Hp → Bool) (e : AV × AV) : Bool := c (.tup [e.1, e.2]) h
def ent2 (st a : Nat) (h : Hp) (c : AV → Hp → Bool) (k : Nat) (bs : List Nat) (es : List (AV × AV)) : Bool := both (Nat.beq k st) (findB bs es (Nat.sub a (nat_lit 1)) (ent1 h c))
def ent3 (h : Hp) (c : AV → Hp → Bool) (m : L) (_ st a : Nat) : Bool := both (Nat.ble (nat_lit 1) a) ((h.get m).mapsK (ent2 st a h c))
def ent4 (h : Hp) (c : AV → Hp → Bool) (l : L) (o : Nat) : Bool := both (Nat.beq o (nat_lit 0)) ((h.get l).itK (ent3 h c))
def aEnt (x : AV) (h : Hp) (c : AV → Hp → Bool) : Bool := x.ptrK (ent4 h c)
def entryR (x : Rd) (_ : CH) (F : NT) (h : Hp) (c : AV → Hp → Bool) : Bool := tall (aEnt (x.get F) h c)
theorem entry_pur {g : G} {h : Hp} {w : World} {x : Operand} {ch : CH} {F : NT} {c : AV → Hp → Bool} {a : Act} (e : entryR (rdOf x) ch F h c = true) (hF : FR ρ g N F a.tmps) (hr : HR ρ g h w) : Pur P ρ g h w (Instr.entry (a.eval x)) c := by
  have hx := rdOf_ok (a := a) hF x
  obtain ⟨l, o, hl, e⟩ := AV.ptrK_true (v := (rdOf x).get F) e
  rw [hl] at hx
  obtain ⟨b, b0, hb, hv⟩ := hx.inv_ptr
  obtain ⟨e1, e⟩ := both_true e
  have e1 := beq_true e1
  subst e1
  obtain ⟨m, s, st, at_, ho, e⟩ := AO.itK_true e
  obtain ⟨e2, e⟩ := both_true e
  have e2 : 1 ≤ at_ := ble_true e2
  obtain ⟨k, bs, es, ho2, e⟩ := AO.mapsK_true e
  obtain ⟨e3, e⟩ := both_true e
  have e3 := beq_true e3
  have h1 := hr.ob l b b0 hb
  rw [ho] at h1
  obtain ⟨hc, bm, cm, h2, h3, _, h4⟩ := h1
  have h5 := hr.ob m bm cm h2
  rw [ho2] at h5
  obtain ⟨ms, h6, h7, h8, h9⟩ := h5
  obtain ⟨me, ent, f1, f2, f3, f4⟩ := findB_true (x := at_ - 1) e h9 h7 h8
  have hback := h4 (at_ - 1) (by omega)
  refine ⟨_, .tuple #[me.key, me.val], ?_, .tup _ _ (.cons _ _ _ _ f2 (.cons _ _ _ _ f3 .nil)), f4⟩
  rw [hv, hc]
  have hf : ms.find? (·.born == (at_ - 1)) = some me := by rw [← Array.find?_toList]; exact f1
  subst e3
  simp [Instr.entry, getObj, Sem.run_bind, Sem.run, h3, h6, hback, hf, Result.andThen]
theorem entry_ok {o : Oper} {x : Operand} (ho : o.op = .entry x) : Cl.ok P ρ N o ⟨entryR (rdOf x)⟩ := fun ch F h c g a w _ e hF hr =>
  Did.pur (s := Instr.entry (a.eval x)) hr (by simp [execOp, ho]) (entry_pur (ch := ch) e hF hr)
end
end Ev
end Go.Proofs.YticoibkgeejkoaaGreatDoor
namespace Go.Proofs.YticoibkgeejkoaaGreatDoor
namespace Ev
set_option linter.unusedVariables false
noncomputable section
variable {ρ : Nat → Value} {g : G} {h : Hp} {w : World} {P : Program} {N : Nat}
abbrev Ky := AV → AV → Bool → Bool → Bool
def EqOk (P : Program) (D t : Nat) (ky : Ky) : Prop := ∀ (ρ : Nat → Value) (g : G) (a b : AV) (av bv : Value) (t' f' : Bool), ky a b t' f' = true → VR ρ g a av → VR ρ g b bv → ∃ r : Bool, (∀ d w, D ≤ d → (Op.equalIn d t av bv).run P w = .ok r w) ∧ (if r then t' else f') = true
theorem eqLeaf_ok {d : TypeDesc} {ky : Ky} {t : Nat} (h : kyOf d = some ky) (ht : P.underlying t = some d) : EqOk P 1 t ky := fun ρ g a b av bv t' f' e ha hb => by
  have hk := (kyOf_ok (P := P) h).1 ρ g a b av bv t' f' e ha hb
  have key : ∀ r, Instr.sameNow d av bv = some r → ∀ D w, 1 ≤ D → (Op.equalIn D t av bv).run P w = .ok r w := fun r hs D w hD => by
    obtain ⟨D, rfl⟩ : ∃ n, D = n + 1 := ⟨D - 1, by omega⟩
    unfold Instr.sameNow at hs
    split at hs
    · split at hs
      · rename_i h1; subst h1; cases hs; exact run_equalIn_int w D t _ _ _ _ ht
      · cases hs
    · cases hs; rw [run_equalIn_string w D t _ _ ht, ← beq_toListBytes]
    · cases hs; exact run_equalIn_bool w D t _ _ ht
    · cases hs
  rcases hk with ⟨h1, h2⟩ | ⟨h1, h2⟩
  · exact ⟨true, key _ h1, h2⟩
  · exact ⟨false, key _ h1, h2⟩
structure Fk where
  run : List AV → List AV → Bool → Bool → Bool
def fk1 (o : Nat) (ky : Ky) (xs ys : List AV) (t f : Bool) : Bool := nthK xs o fun a => nthK ys o fun b => ky a b t f
def fkN (o n : Nat) (ky : Ky) (xs ys : List AV) (t f : Bool) : Bool := dropK xs o fun m => takeK m n fun m => dropK ys o fun k => takeK k n fun k => ky (.agg n m) (.agg n k) t f
def fks0 (x : Fk) (_ : List Fk) (ih : List AV → List AV → Bool → Bool → Bool) (xs ys : List AV) (t f : Bool) : Bool := x.run xs ys (ih xs ys t f) f
def fksK (l : List Fk) (xs ys : List AV) (t f : Bool) : Bool := List.rec (motive := fun _ => List AV → List AV → Bool → Bool → Bool) (fun _ _ t _ => t) fks0 l xs ys t f
def kyA (l : List Fk) (a b : AV) (t f : Bool) : Bool := a.aggK fun _ xs => b.aggK fun _ ys => fksK l xs ys t f
def fkOf (T : Nat → Option Ty) (E : Nat → Option Ky) (f : Field) : Option Fk := match f.name == "_", T f.type, E f.type with
  | false, some y, some ky => match isAggD y.und with
    | true => some ⟨fkN f.offset y.info.size ky⟩
    | false => some ⟨fk1 f.offset ky⟩
  | _, _, _ => none
def fksOf (T : Nat → Option Ty) (E : Nat → Option Ky) : List Field → Option (List Fk)
  | [] => some []
  | f :: fs => match fkOf T E f, fksOf T E fs with
    | some x, some l => some (x :: l)
    | _, _ => none
def eqOf (T : Nat → Option Ty) : Nat → Nat → Option Ky
  | 0, _ => none
  | n + 1, t => match T t with
    | some ⟨.struct fs, i⟩ => match i.eqd, fksOf T (eqOf T n) fs.toList with
      | true, some l => some (kyA l)
      | _, _ => none
    | some ⟨d, _⟩ => kyOf d
    | none => none
theorem fkOf_ok {T : Nat → Option Ty} (hT : TTok P T) {D : Nat} {E : Nat → Option Ky} (hE : ∀ t ky, E t = some ky → EqOk P D t ky) {f : Field} {x : Fk} (hx : fkOf T E f = some x) {ρ : Nat → Value} {g : G} {xs ys : List AV} {cs ds : Array Value} {t' f' : Bool}
    (e : x.run xs ys t' f' = true) (hv : VRs ρ g xs cs.toList) (hv1 : ∀ v ∈ cs.toList, v.oneCell = true) (hu : VRs ρ g ys ds.toList) (hu1 : ∀ v ∈ ds.toList, v.oneCell = true) :
    f.name ≠ "_" ∧ ∃ a b r, (∀ w, (part f.type cs f.offset).run P w = .ok a w) ∧ (∀ w, (part f.type ds f.offset).run P w = .ok b w) ∧ (∀ d w, D ≤ d → (Op.equalIn d f.type a b).run P w = .ok r w) ∧ (if r then t' else f') = true := by
  unfold fkOf at hx
  split at hx
  · rename_i y ky hn hy hky
    refine ⟨by simpa using hn, ?_⟩
    obtain ⟨h1, h2⟩ := hT _ _ hy
    split at hx
    · rename_i hb
      cases hx
      obtain ⟨e1, e⟩ := dropK_true (show dropK xs f.offset (fun m => takeK m y.info.size fun m => dropK ys f.offset fun k => takeK k y.info.size fun k => ky (.agg y.info.size m) (.agg y.info.size k) t' f') = true from e)
      obtain ⟨e2, e⟩ := takeK_true e
      obtain ⟨e3, e⟩ := dropK_true e
      obtain ⟨e4, e⟩ := takeK_true e
      have sub : ∀ {zs : List AV} {us : Array Value}, VRs ρ g zs us.toList → (∀ v ∈ us.toList, v.oneCell = true) → y.info.size ≤ (zs.drop f.offset).length → VR ρ g (.agg y.info.size ((zs.drop f.offset).take y.info.size)) (.agg (us.extract f.offset (f.offset + y.info.size))) ∧ ∀ w, (part f.type us f.offset).run P w = .ok (.agg (us.extract f.offset (f.offset + y.info.size))) w := fun {zs us} k1 k2 k3 => by
        refine ⟨.agg _ _ _ ?_ ?_ ?_, fun w => ?_⟩
        · rw [Array.toList_extract]
          simp only [List.extract_eq_take_drop, Nat.add_sub_cancel_left]
          exact (k1.drop _).take _
        · rw [List.length_take]; omega
        · intro v hv'
          rw [Array.toList_extract] at hv'
          simp only [List.extract_eq_take_drop] at hv'
          exact k2 v (List.mem_of_mem_drop (List.mem_of_mem_take hv'))
        · simp [part, Sem.run_bind, run_isAggD h1, hb, sizeOf, typeInfo, h2, Result.andThen]
      obtain ⟨s1, s2⟩ := sub hv hv1 e2
      obtain ⟨s3, s4⟩ := sub hu hu1 e4
      obtain ⟨r, r1, r2⟩ := hE _ _ hky ρ g _ _ _ _ t' f' e s1 s3
      exact ⟨_, _, r, s2, s4, r1, r2⟩
    · rename_i hb
      cases hx
      obtain ⟨a, ha, e⟩ := nthK_true (show nthK xs f.offset (fun a => nthK ys f.offset fun b => ky a b t' f') = true from e)
      obtain ⟨b, hb', e⟩ := nthK_true e
      obtain ⟨v, v1, v2⟩ := VRs.get hv _ _ ha
      obtain ⟨u, u1, u2⟩ := VRs.get hu _ _ hb'
      rw [Array.getElem?_toList] at v1 u1
      obtain ⟨r, r1, r2⟩ := hE _ _ hky ρ g _ _ _ _ t' f' e v2 u2
      exact ⟨v, u, r, fun w => by simp [part, Sem.run_bind, run_isAggD h1, hb, v1, Result.andThen], fun w => by simp [part, Sem.run_bind, run_isAggD h1, hb, u1, Result.andThen], r1, r2⟩
  · cases hx
theorem fksOf_ok {T : Nat → Option Ty} (hT : TTok P T) {D : Nat} {E : Nat → Option Ky} (hE : ∀ t ky, E t = some ky → EqOk P D t ky) {ρ : Nat → Value} {g : G} {xs ys : List AV} {cs ds : Array Value} {t' f' : Bool}
    (hv : VRs ρ g xs cs.toList) (hv1 : ∀ v ∈ cs.toList, v.oneCell = true) (hu : VRs ρ g ys ds.toList) (hu1 : ∀ v ∈ ds.toList, v.oneCell = true) : ∀ {fs : List Field} {l : List Fk}, fksOf T E fs = some l → fksK l xs ys t' f' = true →
    ∃ r : Bool, (∀ d w, D ≤ d → (Op.eqFields d cs ds fs).run P w = .ok r w) ∧ (if r then t' else f') = true
  | [], l, hl, e => by cases hl; exact ⟨true, fun d w _ => rfl, e⟩
  | f :: fs, l, hl, e => by
    unfold fksOf at hl
    split at hl
    · rename_i x l' hx hl'
      cases hl
      obtain ⟨hn, a, b, r, p1, p2, p3, p4⟩ := fkOf_ok hT hE hx (t' := fksK l' xs ys t' f') (f' := f') e hv hv1 hu hu1
      cases r with
      | false =>
        refine ⟨false, fun d w hd => ?_, p4⟩
        simp [Op.eqFields, hn, Sem.run_bind, p1, p2, p3 d w hd, Result.andThen]
      | true =>
        obtain ⟨r, r1, r2⟩ := fksOf_ok hT hE hv hv1 hu hu1 hl' p4
        refine ⟨r, fun d w hd => ?_, r2⟩
        simp [Op.eqFields, hn, Sem.run_bind, p1, p2, p3 d w hd, r1 d w hd, Result.andThen]
    · cases hl
theorem eqOf_ok {T : Nat → Option Ty} (hT : TTok P T) : ∀ (n t : Nat) (ky : Ky), eqOf T n t = some ky → EqOk P n t ky
  | 0, t, ky, h => by cases h
  | n + 1, t, ky, h => by
    unfold eqOf at h
    split at h
    · rename_i fs i hy
      split at h
      · rename_i l he hl
        cases h
        obtain ⟨q1, q2⟩ := hT.eq _ _ hy he
        obtain ⟨q3, q4⟩ := hT _ _ hy
        intro ρ g a b av bv t' f' e ha hb
        obtain ⟨n1, xs, rfl, e⟩ := AV.aggK_true (show a.aggK (fun _ xs => b.aggK fun _ ys => fksK l xs ys t' f') = true from e)
        obtain ⟨n2, ys, rfl, e⟩ := AV.aggK_true (show b.aggK (fun _ ys => fksK l xs ys t' f') = true from e)
        cases ha with
        | agg _ _ cs hv hl1 hv1 =>
          cases hb with
          | agg _ _ ds hu hl2 hu1 =>
            obtain ⟨r, r1, r2⟩ := fksOf_ok hT (fun t ky h => eqOf_ok hT n t ky h) hv hv1 hu hu1 hl e
            refine ⟨r, fun d w hd => ?_, r2⟩
            obtain ⟨d, rfl⟩ : ∃ m, d = m + 1 := ⟨d - 1, by omega⟩
            have hfs : P.fieldsOf t = fs := by unfold Program.fieldsOf; rw [q3]
            rw [run_equalIn_struct w d t cs ds (by rw [hfs]; exact q3) q1, hfs]
            exact r1 d w (by omega)
      · cases h
    · rename_i d i hn hy
      have := eqLeaf_ok h (hT _ _ hy).1
      exact fun ρ g a b av bv t' f' e ha hb => by
        obtain ⟨r, r1, r2⟩ := this ρ g a b av bv t' f' e ha hb
        exact ⟨r, fun d w hd => r1 d w (by omega), r2⟩
    · cases h
def aEqA (ky : Ky) (neg : Bool) (x y : AV) (h : Hp) (c : AV → Hp → Bool) : Bool := ky x y (isNil true h c neg) (isNil false h c neg)
def eqA? (T : Nat → Option Ty) (t : Nat) : Option Ky := match T t with
  | some ⟨.struct _, i⟩ => match i.eqd with
    | true => eqOf T 5 t
    | false => none
  | _ => none
theorem aEqA_ok {T : Nat → Option Ty} (hT : TTok P T) {t : Nat} {ky : Ky} (hk : eqA? T t = some ky) {neg : Bool} {x y : AV} {xv yv : Value} {ox oy : Operand} {c : AV → Hp → Bool}
    (e : aEqA ky neg x y h c = true) (hx : VR ρ g x xv) (hy : VR ρ g y yv) : Pur P ρ g h w (do eqGuard (if neg then .neq else .eql) t ox oy xv yv; binOp (if neg then .neq else .eql) t xv yv) c := by
  unfold eqA? at hk
  split at hk
  · rename_i fs i hty
    split at hk
    · rename_i he
      obtain ⟨r, r1, r2⟩ := eqOf_ok hT 5 t ky hk ρ g x y xv yv _ _ e hx hy
      have hag : ∃ cs ds, xv = .agg cs ∧ yv = .agg ds := by
        unfold eqOf at hk
        rw [hty] at hk
        dsimp only at hk
        rw [he] at hk
        split at hk
        · cases hk
          rename_i l _ _
          obtain ⟨n1, xs, rfl, e⟩ := AV.aggK_true (show x.aggK (fun _ xs => y.aggK fun _ ys => fksK l xs ys (isNil true h c neg) (isNil false h c neg)) = true from e)
          obtain ⟨n2, ys, rfl, e⟩ := AV.aggK_true (show y.aggK (fun _ ys => fksK l xs ys (isNil true h c neg) (isNil false h c neg)) = true from e)
          cases hx with
          | agg _ _ cs _ _ _ => cases hy with
            | agg _ _ ds _ _ _ => exact ⟨cs, ds, rfl, rfl⟩
        · cases hk
      obtain ⟨cs, ds, rfl, rfl⟩ := hag
      have hg := fun op => run_eqGuard_agg w op t ox oy cs ds (hT.eq _ _ hty he).2
      have h4 := r1 10000 w (by decide)
      have fin : (if r then isNil true h c neg else isNil false h c neg) = true := r2
      have fin : c (.bool (if neg then !r else r)) h = true := by cases r <;> simpa [isNil_eq] using fin
      refine ⟨_, .bool (if neg then !r else r), ?_, .bool _, fin⟩
      cases neg <;> simp [Sem.run_bind, hg, run_eql_struct, run_neq_struct, h4, Result.andThen]
    · cases hk
  · cases hk
def kyD (T : Nat → Option Ty) (t : Nat) : Ky := match eqA? T t with
  | some ky => ky
  | none => fun _ _ _ _ => false
theorem kyD_eq {T : Nat → Option Ty} {t : Nat} {ky : Ky} (h : eqA? T t = some ky) : kyD T t = ky := by unfold kyD; rw [h]
def aEqT (T : Nat → Option Ty) (t : Nat) (neg : Bool) (x y : AV) (h : Hp) (c : AV → Hp → Bool) : Bool := aEqA (kyD T t) neg x y h c
def clEqx (T : Nat → Option Ty) (neg : Bool) (t : Nat) (x y : Operand) : Cl := match eqA? T t with
  | some _ => ⟨two (aEqT T t neg) (rdOf x) (rdOf y)⟩
  | none => clEq T neg t x y
theorem clEqx_ok {T : Nat → Option Ty} (hT : TTok P T) {neg : Bool} {o : Oper} {op : BinOp} {t yt : TypeId} {x y : Operand} (hop : op = if neg then .neq else .eql) (ho : o.op = .binOp op t x y yt) : Cl.ok P ρ N o (clEqx T neg t x y) := fun ch F h c g a w hch e hF hr => by
  unfold clEqx at e
  split at e
  · rename_i ky hk
    subst hop
    exact Did.pur hr (by simp [execOp, ho]) (aEqA_ok hT hk (ox := x) (oy := y) (kyD_eq hk ▸ (show aEqA (kyD T t) neg ((rdOf x).get F) ((rdOf y).get F) h c = true from e)) (rdOf_ok hF x) (rdOf_ok hF y))
  · exact clEq_ok hT hop ho ch F h c g a w hch e hF hr
end
end Ev
end Go.Proofs.YticoibkgeejkoaaGreatDoor
