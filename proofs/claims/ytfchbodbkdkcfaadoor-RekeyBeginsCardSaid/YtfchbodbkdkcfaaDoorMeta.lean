/- Metadata that came in: their lists as rows of cells. -/
import Derived.Test.YtfchbodbkdkcfaaDoorOpenR
import Derived.Test.YtfchbodbkdkcfaaDoorOpenT
import Derived.Deep.Slices
namespace Go.Proofs.YtfchbodbkdkcfaaDoor.Meta
open Go.ChangeShapes Go.WideShapes Go.ChangeAt Go.RowKit Go.Lib Go.Deep
open Go.Proofs.YtfchbodbkdkcfaaDoor.Coll

/-- a slice whose elements are the cells of L -/
def LV {α : Type} (cs : α → List Value) (w : World) (q : Option Addr) (L : List α) : Prop := ∀ j v, (L.flatMap cs)[j]? = some v → ∃ g off, q = some ⟨g, off, none⟩ ∧ w.cell? ⟨g, off + j, none⟩ = some v
theorem LV.below {α : Type} {cs : α → List Value} {w w' : World} {q : Option Addr} {L : List α} (h : LV cs w q L) (hb : Below w.heap.size w w') : LV cs w' q L := fun j v hj => by
  obtain ⟨g, off, e, hc⟩ := h j v hj
  exact ⟨g, off, e, by rw [← hc]; exact hb.cell (Frame.block_lt hc)⟩
theorem flat_get {α : Type} {cs : α → List Value} {sz : Nat} (hs : ∀ x, (cs x).length = sz) : ∀ (L : List α) (i k : Nat) (hi : i < L.length), k < sz → (L.flatMap cs)[i * sz + k]? = (cs (L[i]'hi))[k]?
  | x :: L, 0, k, _, hk => by
    rw [List.flatMap_cons, List.getElem?_append_left (by rw [hs]; omega)]
    simp
  | x :: L, i + 1, k, hi, hk => by
    rw [List.flatMap_cons, List.getElem?_append_right (by rw [hs, Nat.add_mul]; omega), hs, show (i + 1) * sz + k - sz = i * sz + k by rw [Nat.add_mul]; omega]
    rw [flat_get hs L i k (by simpa using hi) hk]
    simp
theorem flat_len {α : Type} {cs : α → List Value} {sz : Nat} (hs : ∀ x, (cs x).length = sz) (L : List α) : (L.flatMap cs).length = L.length * sz := by
  induction L with
  | nil => simp
  | cons x L ih => rw [List.flatMap_cons, List.length_append, ih, hs, List.length_cons, Nat.add_mul]; omega

theorem build_list {α : Type} (p : Nat → α → Prop) : ∀ n, (∀ i, i < n → ∃ d, p i d) → ∃ L : List α, L.length = n ∧ ∀ i (h : i < L.length), p i (L[i]'h)
  | 0, _ => ⟨[], rfl, fun i h => by simp at h⟩
  | n + 1, h => by
    obtain ⟨L, hL, hp⟩ := build_list p n fun i hi => h i (by omega)
    obtain ⟨d, hd⟩ := h n (by omega)
    refine ⟨L ++ [d], by simp [hL], fun i hi => ?_⟩
    by_cases e : i < L.length
    · rw [List.getElem_append_left e]; exact hp i e
    · have : i = n := by simp at hi; omega
      subst this
      rw [List.getElem_append_right (by omega)]
      simpa [hL] using hd
theorem add_add (a : Addr) (i j : Nat) : (a.add i).add j = a.add (i + j) := by
  unfold Addr.add
  by_cases h1 : i = 0 <;> by_cases h2 : j = 0 <;> simp_all [Nat.add_assoc]
theorem weightsAll_mem {H : Type} {P : Program} {t : TypeId} : ∀ {l : List (DataW H)} {d : DataW H}, d ∈ l → ∀ n ∈ d.weights P t, n ∈ DataW.weightsAll P t l
  | _ :: _, _, h, n, hn => by
    simp only [DataW.weightsAll, List.mem_append]
    rcases List.mem_cons.1 h with rfl | h
    · exact .inl hn
    · exact .inr (weightsAll_mem h n hn)
structure SlotD where
  num : Int
  prio : Int
  hash : Int
  turns : Int
  salt : ByteArray
  ciph : ByteArray
  strip : Int
  off : Int
  size : Int
def slotC (d : SlotD) : List Value := [.int .i64 d.num, .int .i64 d.prio, .int .i64 d.hash, .int .i64 d.turns, .string d.salt, .string d.ciph, .int .i64 d.strip, .int .i64 d.off, .int .i64 d.size]
structure EpochD where
  num : Int
  ciph : ByteArray
  nonce : ByteArray
  sealed : ByteArray
  check : ByteArray
def epochC (d : EpochD) : List Value := [.int .u64 d.num, .string d.ciph, .string d.nonce, .string d.sealed, .string d.check]
structure TokD where
  num : Int
  kind : ByteArray
  q : Option Addr
  n : Nat
  cap : Nat
  f : Nat → Int
  note : ByteArray
def tokC (d : TokD) : List Value := [.int .i64 d.num, .string d.kind, .slice d.q d.n d.cap, .string d.note]
structure MetaD where
  label : ByteArray
  subs : ByteArray
  uuid : ByteArray
  hsalt : ByteArray
  unit : Int
  count : Int
  head : Int
  keys : Int
  turns : Int
  dsalt : ByteArray
  dig : ByteArray
  slots : List SlotD
  epochs : List EpochD
  segs : List Sg
  rot : Rot
  toks : List TokD
def metaL (m : MetaD) (vs ve vg vt : Value) : List Value := [.string m.label, .string m.subs, .string m.uuid, .string m.hsalt, .int .i64 m.unit, .int .u64 m.count, .int .i64 m.head, .int .i64 m.keys, .int .i64 m.turns, .string m.dsalt, .string m.dig, vs, ve, vg,
  .bool m.rot.on, .int .u64 m.rot.fr, .int .u64 m.rot.tn, .bool m.rot.back, .int .i64 m.rot.mode, .int .u64 m.rot.hot, .int .u64 m.rot.done, .int .i64 m.rot.off, .int .i64 m.rot.size, .bool m.rot.active, .int .u64 m.rot.count, .string m.rot.sum, vt]

section
variable {H : Type} {enc : TypeId × Value → H} {P : Program} {w : World} {held : Bool}
/-- one element of a slice, its cells typed one by one -/
theorem open_rows {t e : TypeId} {sz : Nat} {fuel : Nat} {v : Value} {y : DataW H × List MemPlace} (ht : P.underlying t = some (.slice e)) (hc : P.cellsOf e = sz)
    (h : DataW.trod enc P w 0 (fun _ => true) held fuel t [v] = some y) {α : Type} (cs : α → List Value) (hcs : ∀ x, (cs x).length = sz) (hz : 0 < sz) (ok : α → DataW H → Prop)
    (one : ∀ (n : Nat) (l : List Value) (x : DataW H × List MemPlace), l.length = sz → DataW.trod enc P w 0 (fun _ => true) held n e l = some x → ∃ d : α, l = cs d ∧ ok d x.1) :
    ∃ (q : Option Addr) (cap : Nat) (L : List α), v = .slice q L.length cap ∧ L.length ≤ cap ∧ cap ≤ maxLen ∧ (q = none → L.length = 0 ∧ cap = 0) ∧ LV cs w q L ∧ (∀ x ∈ L, ∃ e es sp, ok x e ∧ y.1 = .slice es sp ∧ e ∈ es) ∧ (L.length = 0 ∨ ∃ es sp, y.1 = .slice es sp ∧ es.length = L.length) := by
  rcases open_slice ht h with ⟨hv, _⟩ | ⟨a, len, cap, m, n, D, Pl, hv, _, hl, hm, hmm, hx', hel⟩
  · simp only [List.cons.injEq, and_true] at hv
    exact ⟨none, 0, [], hv, Nat.le_refl _, by unfold maxLen; omega, (fun _ => ⟨rfl, rfl⟩), (fun j v hj => by simp at hj), (fun x hx => by cases hx), .inl rfl⟩
  · simp only [List.cons.injEq, and_true] at hv
    simp only [if_true] at hmm
    have each : ∀ i, i < len → ∃ d : α, ok d (D i) ∧ w.cells? 0 (a.add (i * sz)) sz = some (cs d) := fun i hi => by
      obtain ⟨cs', h1, h2⟩ := hel i (by omega)
      rw [hc] at h1
      have hlen : cs'.length = sz := (World.cells?_some h1).2.1
      obtain ⟨d, rfl, hd⟩ := one n cs' _ hlen h2
      exact ⟨d, hd, h1⟩
    obtain ⟨L, hL, hp⟩ := build_list (fun i d => ok d (D i) ∧ w.cells? 0 (a.add (i * sz)) sz = some (cs d)) len each
    subst hL
    have hcell : ∀ j v, (L.flatMap cs)[j]? = some v → w.cell? (a.add j) = some v := fun j v hj => by
      have hjl : j < L.length * sz := by rw [← flat_len hcs L]; exact (List.getElem?_eq_some_iff.1 hj).1
      have hi : j / sz < L.length := Nat.div_lt_of_lt_mul (by rw [Nat.mul_comm]; exact hjl)
      have hk : j % sz < sz := Nat.mod_lt _ hz
      have ej : j / sz * sz + j % sz = j := by rw [Nat.mul_comm]; exact Nat.div_add_mod j sz
      have e1 := flat_get hcs L (j / sz) (j % sz) hi hk
      rw [ej, hj] at e1
      have e2 := (World.cells?_some (hp (j / sz) hi).2).2.2 (j % sz) hk
      rw [← e1] at e2
      rw [← e2]
      rw [add_add, ej]
    refine ⟨some a, cap, L, hv, hl, hm, (fun e => by cases e), fun j v hj => ?_, fun x hx => ?_, .inr ⟨_, _, by rw [hx'], by simp⟩⟩
    · have h0 : ∃ u, w.cell? (a.add 0) = some u := by
        have hlen : 0 < (L.flatMap cs).length := Nat.lt_of_le_of_lt (Nat.zero_le _) (List.getElem?_eq_some_iff.1 hj).1
        exact ⟨_, hcell 0 _ (List.getElem?_eq_getElem hlen)⟩
      obtain ⟨u, hu⟩ := h0
      have hc2 := hcell j v hj
      obtain ⟨b, o, sp⟩ := a
      have hsp : sp = none := by simpa [Addr.add] using World.cell?_spot hu
      subst hsp
      exact ⟨b, o, rfl, by rw [← hc2, Addr.add_mid]⟩
    · obtain ⟨i, hi, rfl⟩ := List.getElem_of_mem hx
      exact ⟨D i, _, _, (hp i hi).1, by rw [hx'], List.mem_map.2 ⟨i, by simpa using hi, rfl⟩⟩
theorem fld {n : Nat} {t : TypeId} {l : List Value} {xs : List (DataW H × List MemPlace)} {i : Nat} (h : DataW.trod enc P w 0 (fun _ => true) held n t l = xs[i]?) (hi : i < xs.length) : ∃ y, DataW.trod enc P w 0 (fun _ => true) held n t l = some y := ⟨_, h.trans (List.getElem?_eq_getElem hi)⟩
theorem t_int {n : Nat} {t : TypeId} {v : Value} {k : IntKind} {xs : List (DataW H × List MemPlace)} {i : Nat} (hu : P.underlying t = some (.int k)) (h : DataW.trod enc P w 0 (fun _ => true) held n t [v] = xs[i]?) (hi : i < xs.length) : ∃ z, v = .int k z := by
  obtain ⟨y, hy⟩ := fld h hi
  obtain ⟨z, e, _⟩ := DataW.trod_int hu hy
  simp only [List.cons.injEq, and_true] at e
  exact ⟨z, e⟩
theorem t_str {n : Nat} {t : TypeId} {v : Value} {xs : List (DataW H × List MemPlace)} {i : Nat} (hu : P.underlying t = some .string) (h : DataW.trod enc P w 0 (fun _ => true) held n t [v] = xs[i]?) (hi : i < xs.length) : ∃ z : ByteArray, v = .string z := by
  obtain ⟨y, hy⟩ := fld h hi
  obtain ⟨z, e, _⟩ := DataW.trod_string hu hy
  simp only [List.cons.injEq, and_true] at e
  exact ⟨z, e⟩
end

section
variable {H : Type} {enc : TypeId × Value → H} {w : World} {held : Bool}
set_option maxRecDepth 100000 in
theorem slot_one (n : Nat) (l : List Value) (x : DataW H × List MemPlace) (hl : l.length = 9) (h : DataW.trod enc Tryd.prog w 0 (fun _ => true) held n 90 l = some x) : ∃ d : SlotD, l = slotC d ∧ True := by
  obtain ⟨xs, m, _, _, _, hlen, hf⟩ := DataW.trod_struct Tryd.underlying90 h
  simp at hlen
  have k1 : Tryd.prog.cellsOf 3 = 1 := by kernel_rfl
  have k9 : Tryd.prog.cellsOf 9 = 1 := by kernel_rfl
  have k2 : Tryd.prog.cellsOf 2 = 1 := by kernel_rfl
  have kA : Tryd.prog.cellsOf 51 = 2 := by kernel_rfl
  match l, hl with
  | [a0, a1, a2, a3, a4, a5, a6, a7, a8], _ =>
    have g0 := hf 0 _ rfl
    have g1 := hf 1 _ rfl
    have g2 := hf 2 _ rfl
    have g3 := hf 3 _ rfl
    have g4 := hf 4 _ rfl
    have g5 := hf 5 _ rfl
    have g6 := hf 6 _ rfl
    have g7 := hf 7 _ rfl
    obtain ⟨z0, rfl⟩ := t_int Tryd.underlying3 g0 (by omega)
    obtain ⟨z1, rfl⟩ := t_int Tryd.underlying3 g1 (by omega)
    obtain ⟨z2, rfl⟩ := t_int Tryd.underlying3 g2 (by omega)
    obtain ⟨z3, rfl⟩ := t_int Tryd.underlying3 g3 (by omega)
    obtain ⟨z4, rfl⟩ := t_str Tryd.underlying9 g4 (by omega)
    obtain ⟨z5, rfl⟩ := t_str Tryd.underlying9 g5 (by omega)
    obtain ⟨z6, rfl⟩ := t_int Tryd.underlying3 g6 (by omega)
    obtain ⟨y, hy⟩ := fld g7 (by omega)
    obtain ⟨xs2, m2, _, _, _, hlen2, hf2⟩ := DataW.trod_struct Tryd.underlying51 hy
    simp at hlen2
    have e0 := hf2 0 _ rfl
    have e1 := hf2 1 _ rfl
    obtain ⟨z7, rfl⟩ := t_int Tryd.underlying2 e0 (by omega)
    obtain ⟨z8, rfl⟩ := t_int Tryd.underlying2 e1 (by omega)
    exact ⟨⟨z0, z1, z2, z3, z4, z5, z6, z7, z8⟩, rfl, trivial⟩
set_option maxRecDepth 100000 in
theorem epoch_one (n : Nat) (l : List Value) (x : DataW H × List MemPlace) (hl : l.length = 5) (h : DataW.trod enc Tryd.prog w 0 (fun _ => true) held n 64 l = some x) : ∃ d : EpochD, l = epochC d ∧ True := by
  obtain ⟨xs, m, _, _, _, hlen, hf⟩ := DataW.trod_struct Tryd.underlying64 h
  simp at hlen
  have k1 : Tryd.prog.cellsOf 22 = 1 := by kernel_rfl
  have k9 : Tryd.prog.cellsOf 9 = 1 := by kernel_rfl
  match l, hl with
  | [a0, a1, a2, a3, a4], _ =>
    have g0 := hf 0 _ rfl
    have g1 := hf 1 _ rfl
    have g2 := hf 2 _ rfl
    have g3 := hf 3 _ rfl
    have g4 := hf 4 _ rfl
    obtain ⟨z0, rfl⟩ := t_int Tryd.underlying22 g0 (by omega)
    obtain ⟨z1, rfl⟩ := t_str Tryd.underlying9 g1 (by omega)
    obtain ⟨z2, rfl⟩ := t_str Tryd.underlying9 g2 (by omega)
    obtain ⟨z3, rfl⟩ := t_str Tryd.underlying9 g3 (by omega)
    obtain ⟨z4, rfl⟩ := t_str Tryd.underlying9 g4 (by omega)
    exact ⟨⟨z0, z1, z2, z3, z4⟩, rfl, trivial⟩
set_option maxRecDepth 100000 in
theorem seg_one (n : Nat) (l : List Value) (x : DataW H × List MemPlace) (hl : l.length = 3) (h : DataW.trod enc Tryd.prog w 0 (fun _ => true) held n 92 l = some x) : ∃ d : Sg, l = sgC d ∧ True := by
  obtain ⟨xs, m, _, _, _, hlen, hf⟩ := DataW.trod_struct Tryd.underlying92 h
  simp at hlen
  have k1 : Tryd.prog.cellsOf 22 = 1 := by kernel_rfl
  match l, hl with
  | [a0, a1, a2], _ =>
    have g0 := hf 0 _ rfl
    have g1 := hf 1 _ rfl
    have g2 := hf 2 _ rfl
    obtain ⟨z0, rfl⟩ := t_int Tryd.underlying22 g0 (by omega)
    obtain ⟨z1, rfl⟩ := t_int Tryd.underlying22 g1 (by omega)
    obtain ⟨z2, rfl⟩ := t_int Tryd.underlying22 g2 (by omega)
    exact ⟨(z0, z1, z2), rfl, trivial⟩
/-- what is known of a token: its slots are a list of ints -/
def tokOkd (w : World) (d : TokD) : Prop := d.n ≤ d.cap ∧ d.cap ≤ maxLen ∧ (d.q = none → d.n = 0 ∧ d.cap = 0) ∧ Tok.IL w d.q d.n d.f ∧ d.n ≤ 17592186043904
def tokOke (w : World) (d : TokD) (e : DataW H) : Prop := (d.n ≤ d.cap ∧ d.cap ≤ maxLen ∧ (d.q = none → d.n = 0 ∧ d.cap = 0) ∧ Tok.IL w d.q d.n d.f) ∧ (d.n = 0 ∨ ∃ parts es sp, e = .agg parts ∧ parts[2]? = some (.slice es sp) ∧ es.length = d.n)
set_option maxRecDepth 100000 in
theorem tok_one (n : Nat) (l : List Value) (x : DataW H × List MemPlace) (hl : l.length = 4) (h : DataW.trod enc Tryd.prog w 0 (fun _ => true) held n 41 l = some x) : ∃ d : TokD, l = tokC d ∧ tokOke w d x.1 := by
  obtain ⟨xs, m, _, hx, _, hlen, hf⟩ := DataW.trod_struct Tryd.underlying41 h
  simp at hlen
  have k1 : Tryd.prog.cellsOf 3 = 1 := by kernel_rfl
  have k9 : Tryd.prog.cellsOf 9 = 1 := by kernel_rfl
  have kS : Tryd.prog.cellsOf 39 = 1 := by kernel_rfl
  match l, hl with
  | [a0, a1, a2, a3], _ =>
    have g0 := hf 0 _ rfl
    have g1 := hf 1 _ rfl
    have g2 := hf 2 _ rfl
    have g3 := hf 3 _ rfl
    obtain ⟨z0, rfl⟩ := t_int Tryd.underlying3 g0 (by omega)
    obtain ⟨z1, rfl⟩ := t_str Tryd.underlying9 g1 (by omega)
    obtain ⟨z3, rfl⟩ := t_str Tryd.underlying9 g3 (by omega)
    rw [List.getElem?_eq_getElem (by omega)] at g2
    obtain ⟨q, k, cap, f, rfl, h1, h2, h3, h4, h5⟩ := OpenT.open_il Tryd.underlying39 Tryd.underlying3 (by kernel_rfl) g2
    refine ⟨⟨z0, z1, q, k, cap, f, z3⟩, rfl, ⟨h1, h2, h3, h4⟩, ?_⟩
    rcases h5 with h5 | ⟨es, sp, h6, h7⟩
    · exact .inl h5
    · exact .inr ⟨_, es, sp, by rw [hx], by rw [List.getElem?_map, List.getElem?_eq_getElem (by omega), Option.map_some, h6], h7⟩
end

/-- where the lists of metadata lie -/
structure Places where
  qs : Option Addr
  ks : Nat
  qe : Option Addr
  ke : Nat
  qg : Option Addr
  kg : Nat
  qt : Option Addr
  kt : Nat
def metaV (m : MetaD) (p : Places) : Value := .agg (metaL m (.slice p.qs m.slots.length p.ks) (.slice p.qe m.epochs.length p.ke) (.slice p.qg m.segs.length p.kg) (.slice p.qt m.toks.length p.kt)).toArray
structure LIn {α : Type} (cs : α → List Value) (w : World) (q : Option Addr) (k : Nat) (L : List α) (bytes : Nat) : Prop where
  lv : LV cs w q L
  le : L.length ≤ k
  max : k ≤ maxLen
  nil : q = none → L.length = 0 ∧ k = 0
  reach : L.length * bytes ≤ reachBytes
structure MIn (w : World) (m : MetaD) (p : Places) : Prop where
  s : LIn slotC w p.qs p.ks m.slots 88
  e : LIn epochC w p.qe p.ke m.epochs 72
  g : LIn sgC w p.qg p.kg m.segs 24
  t : LIn tokC w p.qt p.kt m.toks 64
  tok : ∀ x ∈ m.toks, tokOkd w x

/-- the ranges of the scalars -/
structure MR (m : MetaD) : Prop where
  unit : IntKind.i64.has m.unit
  count : IntKind.u64.has m.count
  head : IntKind.i64.has m.head
  keys : IntKind.i64.has m.keys
  turns : IntKind.i64.has m.turns
  fr : IntKind.u64.has m.rot.fr
  tn : IntKind.u64.has m.rot.tn
  mode : IntKind.i64.has m.rot.mode
  hot : IntKind.u64.has m.rot.hot
  done : IntKind.u64.has m.rot.done
  off : IntKind.i64.has m.rot.off
  size : IntKind.i64.has m.rot.size
  rcount : IntKind.u64.has m.rot.count
theorem list27 {cs : Array Value} (h : cs.size = 27) : ∃ a0 a1 a2 a3 a4 a5 a6 a7 a8 a9 a10 a11 a12 a13 a14 a15 a16 a17 a18 a19 a20 a21 a22 a23 a24 a25 a26, cs = #[a0, a1, a2, a3, a4, a5, a6, a7, a8, a9, a10, a11, a12, a13, a14, a15, a16, a17, a18, a19, a20, a21, a22, a23, a24, a25, a26] := by
  obtain ⟨l⟩ := cs
  match l, h with
  | [a0, a1, a2, a3, a4, a5, a6, a7, a8, a9, a10, a11, a12, a13, a14, a15, a16, a17, a18, a19, a20, a21, a22, a23, a24, a25, a26], _ => exact ⟨a0, a1, a2, a3, a4, a5, a6, a7, a8, a9, a10, a11, a12, a13, a14, a15, a16, a17, a18, a19, a20, a21, a22, a23, a24, a25, a26, rfl⟩

section
variable {H : Type} {enc : TypeId × Value → H} {w : World} {held : Bool}
set_option maxRecDepth 100000 in
theorem open_meta {r : Reach} {b : Nat} {v : Value} {d : DataW H} {pl : List MemPlace} {ts : List TypeId} {ds : List (DataW H)} {j : Nat} (hv : Value.okWide Tryd.prog w r b 56 v) (h : DataW.Trod enc Tryd.prog w 0 (fun _ => true) held 56 v d pl)
    (hsz : (DataW.weightsEach Tryd.prog ts ds).all (· ≤ reachBytes) = true) (ht : ts[j]? = some 56) (hd : ds[j]? = some d) :
    ∃ m p, v = metaV m p ∧ MIn w m p ∧ MR m := by
  obtain ⟨cs, rfl, hn, hk⟩ := open_cells (ts := [9, 9, 9, 9, 3, 22, 3, 3, 3, 9, 9, 47, 48, 49,
    4, 22, 22, 4, 3, 22, 22, 2, 2, 4, 22, 9, 54]) (n := 27) Tryd.underlying56 (by kernel_rfl) (by kernel_rfl) hv
  obtain ⟨a0, a1, a2, a3, a4, a5, a6, a7, a8, a9, a10, a11, a12, a13, a14, a15, a16, a17, a18, a19, a20, a21, a22, a23, a24, a25, a26, rfl⟩ := list27 hn
  obtain ⟨z0, rfl, _⟩ := cell_str Tryd.underlying9 (hk 0 _ _ rfl rfl)
  obtain ⟨z1, rfl, _⟩ := cell_str Tryd.underlying9 (hk 1 _ _ rfl rfl)
  obtain ⟨z2, rfl, _⟩ := cell_str Tryd.underlying9 (hk 2 _ _ rfl rfl)
  obtain ⟨z3, rfl, _⟩ := cell_str Tryd.underlying9 (hk 3 _ _ rfl rfl)
  obtain ⟨z4, rfl, r4⟩ := cell_int Tryd.underlying3 (hk 4 _ _ rfl rfl)
  obtain ⟨z5, rfl, r5⟩ := cell_int Tryd.underlying22 (hk 5 _ _ rfl rfl)
  obtain ⟨z6, rfl, r6⟩ := cell_int Tryd.underlying3 (hk 6 _ _ rfl rfl)
  obtain ⟨z7, rfl, r7⟩ := cell_int Tryd.underlying3 (hk 7 _ _ rfl rfl)
  obtain ⟨z8, rfl, r8⟩ := cell_int Tryd.underlying3 (hk 8 _ _ rfl rfl)
  obtain ⟨z9, rfl, _⟩ := cell_str Tryd.underlying9 (hk 9 _ _ rfl rfl)
  obtain ⟨z10, rfl, _⟩ := cell_str Tryd.underlying9 (hk 10 _ _ rfl rfl)
  obtain ⟨z14, rfl⟩ := cell_bool Tryd.underlying4 (hk 14 _ _ rfl rfl)
  obtain ⟨z15, rfl, r15⟩ := cell_int Tryd.underlying22 (hk 15 _ _ rfl rfl)
  obtain ⟨z16, rfl, r16⟩ := cell_int Tryd.underlying22 (hk 16 _ _ rfl rfl)
  obtain ⟨z17, rfl⟩ := cell_bool Tryd.underlying4 (hk 17 _ _ rfl rfl)
  obtain ⟨z18, rfl, r18⟩ := cell_int Tryd.underlying3 (hk 18 _ _ rfl rfl)
  obtain ⟨z19, rfl, r19⟩ := cell_int Tryd.underlying22 (hk 19 _ _ rfl rfl)
  obtain ⟨z20, rfl, r20⟩ := cell_int Tryd.underlying22 (hk 20 _ _ rfl rfl)
  obtain ⟨z21, rfl, r21⟩ := cell_int Tryd.underlying2 (hk 21 _ _ rfl rfl)
  obtain ⟨z22, rfl, r22⟩ := cell_int Tryd.underlying2 (hk 22 _ _ rfl rfl)
  obtain ⟨z23, rfl⟩ := cell_bool Tryd.underlying4 (hk 23 _ _ rfl rfl)
  obtain ⟨z24, rfl, r24⟩ := cell_int Tryd.underlying22 (hk 24 _ _ rfl rfl)
  obtain ⟨z25, rfl, _⟩ := cell_str Tryd.underlying9 (hk 25 _ _ rfl rfl)
  obtain ⟨fuel, hf0⟩ := h
  obtain ⟨xs, n, _, hx, _, hlen, hf⟩ := DataW.trod_struct Tryd.underlying56 hf0
  simp only [Prod.mk.injEq] at hx
  obtain ⟨rfl, _⟩ := hx
  simp at hlen
  have hsz2 := OpenT.sized_agg hsz ht hd Tryd.underlying56
  have kS : Tryd.prog.cellsOf 47 = 1 := by kernel_rfl
  have kE : Tryd.prog.cellsOf 48 = 1 := by kernel_rfl
  have kG : Tryd.prog.cellsOf 49 = 1 := by kernel_rfl
  have kT : Tryd.prog.cellsOf 54 = 1 := by kernel_rfl
  have g6 := hf 6 _ rfl
  have g7 := hf 7 _ rfl
  have g8 := hf 8 _ rfl
  have g10 := hf 10 _ rfl
  simp only [Value.cells] at g6 g7 g8 g10
  rw [List.getElem?_eq_getElem (by omega)] at g6 g7 g8 g10
  obtain ⟨qs, ks, Ls, rfl, s1, s2, s3, s4, _, s6⟩ := open_rows Tryd.underlying47 (by kernel_rfl) g6 slotC (sz := 9) (fun _ => rfl) (by decide) (fun _ _ => True) slot_one
  obtain ⟨qe, ke, Le, rfl, e1, e2, e3, e4, _, e6⟩ := open_rows Tryd.underlying48 (by kernel_rfl) g7 epochC (sz := 5) (fun _ => rfl) (by decide) (fun _ _ => True) epoch_one
  obtain ⟨qg, kg, Lg, rfl, g1, g2, g3, g4, _, g6'⟩ := open_rows Tryd.underlying49 (by kernel_rfl) g8 sgC (sz := 3) (fun _ => rfl) (by decide) (fun _ _ => True) seg_one
  obtain ⟨qt, kt, Lt, rfl, t1, t2, t3, t4, t5, t6⟩ := open_rows Tryd.underlying54 (by kernel_rfl) g10 tokC (sz := 4) (fun _ => rfl) (by decide) (tokOke w) tok_one
  have bound : ∀ {i : Nat} {t e : TypeId} {by_ n : Nat} {y : DataW H} (hi : i < xs.length), (xs[i]'hi).1 = y → ((Tryd.prog.underlying 56).bind fun t => match t with | .struct fs => (fs.toList.map (·.type))[i]? | _ => none) = some t → Tryd.prog.underlying t = some (.slice e) → Tryd.prog.bytesOf e = by_ →
      (n = 0 ∨ ∃ es sp, y = .slice es sp ∧ es.length = n) → n * by_ ≤ reachBytes := fun {i t e by_ n y} hi hy htt hu hb ho => by
    rcases ho with rfl | ⟨es, sp, rfl, rfl⟩
    · omega
    · rw [Tryd.underlying56] at htt
      have := sized_slice hsz2 (j := i) htt (elems := es) (spare := sp) (by rw [List.getElem?_map, List.getElem?_eq_getElem hi, Option.map_some, hy]) hu
      rw [hb] at this
      exact Nat.le_trans (Nat.mul_le_mul_right _ (Nat.le_add_right _ _)) this
  refine ⟨⟨z0, z1, z2, z3, z4, z5, z6, z7, z8, z9, z10, Ls, Le, Lg, ⟨z14, z15, z16, z17, z18, z19, z20, z21, z22, z23, z24, z25⟩, Lt⟩, ⟨qs, ks, qe, ke, qg, kg, qt, kt⟩, rfl, ⟨⟨s4, s1, s2, s3, ?_⟩, ⟨e4, e1, e2, e3, ?_⟩, ⟨g4, g1, g2, g3, ?_⟩, ⟨t4, t1, t2, t3, ?_⟩, ?_⟩, ⟨r4, r5, r6, r7, r8, r15, r16, r18, r19, r20, r21, r22, r24⟩⟩
  · exact bound (i := 6) (t := 47) (by omega) rfl rfl Tryd.underlying47 (by kernel_rfl) s6
  · exact bound (i := 7) (t := 48) (by omega) rfl rfl Tryd.underlying48 (by kernel_rfl) e6
  · exact bound (i := 8) (t := 49) (by omega) rfl rfl Tryd.underlying49 (by kernel_rfl) g6'
  · exact bound (i := 10) (t := 54) (by omega) rfl rfl Tryd.underlying54 (by kernel_rfl) t6
  · intro x hx
    obtain ⟨e, es, sp, ⟨⟨b1, b2, b3, b4⟩, b5⟩, hy, he⟩ := t5 x hx
    refine ⟨b1, b2, b3, b4, ?_⟩
    rcases b5 with b5 | ⟨parts, es2, sp2, rfl, hp2, hl2⟩
    · omega
    · have hm : (es2.length + sp2.length) * Tryd.prog.bytesOf 3 ∈ DataW.weightsEach Tryd.prog (#[].toList.map (fun f : Field => f.type)) ([] : List (DataW H)) ∨ (es2.length + sp2.length) * Tryd.prog.bytesOf 3 ≤ reachBytes := .inr (by
        have hw : (es2.length + sp2.length) * Tryd.prog.bytesOf 3 ∈ DataW.weights Tryd.prog 54 (xs[10]'(by omega)).1 := by
          rw [hy]
          simp only [DataW.weights, Tryd.underlying54, List.mem_cons, List.mem_append]
          refine .inr (.inl (weightsAll_mem he _ ?_))
          simp only [DataW.weights, Tryd.underlying41]
          exact DataW.weights_mem_each (j := 2) (t := 39) rfl hp2 _ (by simp [DataW.weights, Tryd.underlying39])
        have := List.all_eq_true.1 hsz2 _ (DataW.weights_mem_each (j := 10) (t := 54) rfl (by rw [List.getElem?_map, List.getElem?_eq_getElem (by omega), Option.map_some]) _ hw)
        simpa using this)
      rcases hm with hm | hm
      · simp [DataW.weightsEach] at hm
      · rw [show Tryd.prog.bytesOf 3 = 8 by kernel_rfl] at hm
        unfold reachBytes at hm
        omega
end
end Go.Proofs.YtfchbodbkdkcfaaDoor.Meta
