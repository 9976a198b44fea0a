/- What a twin is: lists with marks behind them, tokens with copies of their own. -/
import Derived.Test.YtfchbodbkdkcfaaDoorMetaWide
import Derived.Test.YtfchbodbkdkcfaaDoorTree
import Derived.Deep.WholeRow
namespace Go.Proofs.YtfchbodbkdkcfaaDoor.Meta
open Go.RowKit Go.Lib Go.Proofs.YtfchbodbkdkcfaaDoor.Coll

/-- a list in a block of its own, marks behind it -/
structure Marked (lo : Nat) (w : World) (e : TypeId) (size : Nat) (q : Option Addr) (cap n k : Nat) (xs ms : List Value) : Prop where
  ad : ∃ g, q = some ⟨g, 0, none⟩
  own : w.ownsRow lo e size (.slice q (n + k) cap) (n + k) (xs ++ ms)
  room : n + k ≤ cap
  max : cap ≤ maxLen
/-- a write that leaves rows of a type alone -/
def Off (w : World) (lo : Nat) (e : TypeId) (ob : Option Nat) : Prop := ∀ b, ob = some b → b < lo ∨ ∃ cur e' fz, w.heap[b]? = some (.cells cur e' fz) ∧ e' ≠ e
theorem Off.none {w : World} {lo : Nat} {e : TypeId} : Off w lo e none := fun _ h => by cases h
theorem own_off {w w' : World} {lo : Nat} {e : TypeId} {size : Nat} {v : Value} {n : Nat} {xs : List Value} (h : w.ownsRow lo e size v n xs) {ob : Option Nat} (hg : w.grownBy w' ob) (ho : Off w lo e ob) : w'.ownsRow lo e size v n xs := by
  refine h.kept hg ?_
  rcases h.2 with ⟨rfl, _⟩ | ⟨g, cap, cur, rfl, hlo, hgb, _⟩
  · exact .inl rfl
  · refine .inr fun e' => ?_
    rcases ho g e'.symm with h1 | ⟨cur', e2, fz, h2, h3⟩
    · omega
    · rw [hgb] at h2
      cases h2
      exact h3 rfl
theorem Marked.grown {lo : Nat} {w w' : World} {e : TypeId} {size : Nat} {q : Option Addr} {cap n k : Nat} {xs ms : List Value} (h : Marked lo w e size q cap n k xs ms) {ob : Option Nat} (hg : w.grownBy w' ob) (ho : Off w lo e ob) : Marked lo w' e size q cap n k xs ms :=
  ⟨h.ad, own_off h.own hg ho, h.room, h.max⟩
theorem Marked.mono {lo lo' : Nat} {w : World} {e : TypeId} {size : Nat} {q : Option Addr} {cap n k : Nat} {xs ms : List Value} (h : Marked lo w e size q cap n k xs ms) (hl : lo' ≤ lo) : Marked lo' w e size q cap n k xs ms := by
  refine ⟨h.ad, ⟨h.own.1, ?_⟩, h.room, h.max⟩
  rcases h.own.2 with h1 | ⟨g, c, cur, h1, h2, h3⟩
  · exact .inl h1
  · exact .inr ⟨g, c, cur, h1, by omega, h3⟩
theorem gb_of_below {w w' : World} (h : Below w.heap.size w w') : w.grownBy w' none := ⟨h.os, h.tape, h.output, h.size, fun k hk _ => h.block k hk⟩
theorem below_of_gb {w w' : World} (h : w.grownBy w' none) : Below w.heap.size w w' := ⟨h.os, h.tape, h.output, h.size, fun k hk => h.block k hk (by simp)⟩
/-- a token and its copy -/
structure TokRel (lo : Nat) (w : World) (d d2 : TokD) : Prop where
  num : d2.num = d.num
  kind : d2.kind = d.kind
  note : d2.note = d.note
  n : d2.n = d.n
  f : d2.f = d.f
  q : ∃ g, d2.q = some ⟨g, 0, none⟩ ∧ lo ≤ g ∧ g < w.heap.size ∧ ∀ j, j < d.n + 70 → w.cell? ⟨g, j, none⟩ = (Tok.row d.n d.f 70)[j]?
  room : d.n + 70 ≤ d2.cap
  max : d2.cap ≤ maxLen
theorem TokRel.grown {lo : Nat} {w w' : World} {d d2 : TokD} (h : TokRel lo w d d2) {ob : Option Nat} (hg : w.grownBy w' ob) (ho : ∀ b, ob = some b → b < lo) : TokRel lo w' d d2 := by
  obtain ⟨g, h1, h2, h3, h4⟩ := h.q
  refine ⟨h.num, h.kind, h.note, h.n, h.f, ⟨g, h1, h2, Nat.lt_of_lt_of_le h3 hg.size, fun j hj => ?_⟩, h.room, h.max⟩
  rw [← h4 j hj]
  exact World.cell?_of_block (hg.block g h3 (fun e => by have := ho g e.symm; omega))
theorem TokRel.mono {lo lo' : Nat} {w : World} {d d2 : TokD} (h : TokRel lo w d d2) (hl : lo' ≤ lo) : TokRel lo' w d d2 := by
  obtain ⟨g, h1, h2, h3, h4⟩ := h.q
  exact ⟨h.num, h.kind, h.note, h.n, h.f, ⟨g, h1, by omega, h3, h4⟩, h.room, h.max⟩
/-- metadata and their twin -/
structure Twin (lo k : Nat) (mS mE mG mT : List Value) (w : World) (m m2 : MetaD) (p2 : Places) : Prop where
  eq : m2 = { m with toks := m2.toks }
  len : m2.toks.length = m.toks.length
  s : Marked lo w 90 9 p2.qs p2.ks m.slots.length k (m.slots.flatMap slotC) mS
  e : Marked lo w 64 5 p2.qe p2.ke m.epochs.length k (m.epochs.flatMap epochC) mE
  g : Marked lo w 92 3 p2.qg p2.kg m.segs.length k (m.segs.flatMap sgC) mG
  t : Marked lo w 41 4 p2.qt p2.kt m.toks.length k (m2.toks.flatMap tokC) mT
  tok : ∀ i (h : i < m.toks.length) (h2 : i < m2.toks.length), TokRel lo w (m.toks[i]'h) (m2.toks[i]'h2)
theorem Twin.grown {lo k : Nat} {mS mE mG mT : List Value} {w w' : World} {m m2 : MetaD} {p2 : Places} (h : Twin lo k mS mE mG mT w m m2 p2) {ob : Option Nat} (hg : w.grownBy w' ob) (ho : ∀ b, ob = some b → b < lo) : Twin lo k mS mE mG mT w' m m2 p2 :=
  ⟨h.eq, h.len, h.s.grown hg fun b hb => .inl (ho b hb), h.e.grown hg fun b hb => .inl (ho b hb), h.g.grown hg fun b hb => .inl (ho b hb), h.t.grown hg fun b hb => .inl (ho b hb), fun i h1 h2 => (h.tok i h1 h2).grown hg ho⟩
theorem Twin.below {lo k : Nat} {mS mE mG mT : List Value} {w w' : World} {m m2 : MetaD} {p2 : Places} (h : Twin lo k mS mE mG mT w m m2 p2) (hb : Below w.heap.size w w') : Twin lo k mS mE mG mT w' m m2 p2 :=
  h.grown (gb_of_below hb) (fun _ h => by cases h)

theorem sl_one' : ∀ (L : List SlotD), ∀ u ∈ L.flatMap slotC, u.oneCell' = true := fun L u hu => by
  obtain ⟨d, _, h⟩ := List.mem_flatMap.1 hu
  simp only [slotC, List.mem_cons, List.not_mem_nil, or_false] at h
  rcases h with rfl | rfl | rfl | rfl | rfl | rfl | rfl | rfl | rfl <;> rfl
theorem ep_one' : ∀ (L : List EpochD), ∀ u ∈ L.flatMap epochC, u.oneCell' = true := fun L u hu => by
  obtain ⟨d, _, h⟩ := List.mem_flatMap.1 hu
  simp only [epochC, List.mem_cons, List.not_mem_nil, or_false] at h
  rcases h with rfl | rfl | rfl | rfl | rfl <;> rfl
theorem sg_one' : ∀ (L : List Sg), ∀ u ∈ L.flatMap sgC, u.oneCell' = true := fun L u hu => by
  obtain ⟨d, _, h⟩ := List.mem_flatMap.1 hu
  simp only [sgC, List.mem_cons, List.not_mem_nil, or_false] at h
  rcases h with rfl | rfl | rfl <;> rfl
theorem tk_one' : ∀ (L : List TokD), ∀ u ∈ L.flatMap tokC, u.oneCell' = true := fun L u hu => by
  obtain ⟨d, _, h⟩ := List.mem_flatMap.1 hu
  simp only [tokC, List.mem_cons, List.not_mem_nil, or_false] at h
  rcases h with rfl | rfl | rfl | rfl <;> rfl
/-- a token's slots set anew -/
def setTok (L : List TokD) (k : Nat) (q : Option Addr) (cap : Nat) : List TokD := L.modify k fun d => { d with q := q, cap := cap }
theorem setTok_flat : ∀ (L : List TokD) (k : Nat) (q : Option Addr) (cap : Nat) (h : k < L.length), (setTok L k q cap).flatMap tokC = (L.flatMap tokC).set (k * 4 + 2) (.slice q (L[k]'h).n cap)
  | d :: L, 0, q, cap, _ => by simp [setTok, tokC]
  | d :: L, k + 1, q, cap, h => by
    have ih := setTok_flat L k q cap (by simpa using h)
    have e : (setTok (d :: L) (k + 1) q cap) = d :: setTok L k q cap := by simp [setTok]
    rw [e, List.flatMap_cons, ih, List.flatMap_cons, show (k + 1) * 4 + 2 = (tokC d).length + (k * 4 + 2) by simp [tokC]; omega]
    rw [List.set_append_right _ _ (by omega)]
    simp
theorem setTok_len (L : List TokD) (k : Nat) (q : Option Addr) (cap : Nat) : (setTok L k q cap).length = L.length := by simp [setTok]
theorem setTok_at (L : List TokD) (k : Nat) (q : Option Addr) (cap : Nat) (h : k < L.length) (h2 : k < (setTok L k q cap).length) : (setTok L k q cap)[k]'h2 = { (L[k]'h) with q := q, cap := cap } := by simp [setTok]
theorem setTok_ne (L : List TokD) (k j : Nat) (q : Option Addr) (cap : Nat) (h : j ≠ k) : (setTok L k q cap)[j]? = L[j]? := by
  have h' : k ≠ j := fun e => h e.symm
  simp [setTok, h']
theorem info_of {t : TypeId} {z : Value} {s b : Nat} (h : (Tryd.prog.info? t).map (fun i => (i.zero, i.size, i.bytes)) = some (some z, s, b)) : ∃ i, Tryd.prog.info? t = some i ∧ i.zero = some z ∧ i.size = s ∧ i.bytes = b := by
  cases hi : Tryd.prog.info? t with
  | none => simp [hi] at h
  | some I =>
    simp only [hi, Option.map_some, Option.some.injEq, Prod.mk.injEq] at h
    exact ⟨I, rfl, h.1, h.2.1, h.2.2⟩
theorem reach_le {n b : Nat} (h : n * b ≤ reachBytes) (hb : b ≤ 1000) (hpos : 0 < b) : n + 2 ≤ maxLen ∧ (n + 1) * b ≤ 140737488355328 ∧ (n + 2) * b ≤ 140737488355328 := by
  have h0 : n ≤ n * b := Nat.le_mul_of_pos_right n hpos
  have e : (n + 1) * b = n * b + b := by rw [Nat.add_mul, Nat.one_mul]
  have e2 : (n + 2) * b = n * b + 2 * b := by rw [Nat.add_mul]
  rw [e, e2]
  generalize n * b = x at *
  unfold reachBytes at h
  unfold maxLen
  omega
theorem LV.grown {α : Type} {cs : α → List Value} {w w' : World} {q : Option Addr} {L : List α} (h : LV cs w q L) (hb : w.grownBy w' none) : LV cs w' q L := fun j v hj => by
  obtain ⟨g, off, e, hc⟩ := h j v hj
  exact ⟨g, off, e, (World.cell?_of_block (hb.block g (Frame.block_lt hc) (by simp))).trans hc⟩
def metaZ : Array Value := #[.string ⟨#[]⟩, .string ⟨#[]⟩, .string ⟨#[]⟩, .string ⟨#[]⟩, .int .i64 0, .int .u64 0, .int .i64 0, .int .i64 0, .int .i64 0, .string ⟨#[]⟩, .string ⟨#[]⟩, .slice none 0 0, .slice none 0 0, .slice none 0 0,
  .bool false, .int .u64 0, .int .u64 0, .bool false, .int .i64 0, .int .u64 0, .int .u64 0, .int .i64 0, .int .i64 0, .bool false, .int .u64 0, .string ⟨#[]⟩, .slice none 0 0]
/-- the block of a row, if any -/
def blk (v : Value) : Nat := v.ownBlock.getD 0
/-- between the rounds of a twin's tokens -/
structure TW (mS mE mG : List Value) (B k1 : Nat) (w : World) (m : MetaD) (p2 : Places) (vt : Value) (k : Nat) (T : List TokD) (wr : World) : Prop where
  gr : w.grownBy wr none
  sz : B ≤ wr.heap.size
  s : Marked B wr 90 9 p2.qs p2.ks m.slots.length k1 (m.slots.flatMap slotC) mS
  e : Marked B wr 64 5 p2.qe p2.ke m.epochs.length k1 (m.epochs.flatMap epochC) mE
  g : Marked B wr 92 3 p2.qg p2.kg m.segs.length k1 (m.segs.flatMap sgC) mG
  len : T.length = m.toks.length
  own : wr.ownsRow B 41 4 vt m.toks.length (T.flatMap tokC)
  tok : ∀ i (h : i < m.toks.length) (h2 : i < T.length), i < k → TokRel (blk vt + 1) wr (m.toks[i]'h) (T[i]'h2)
  old : ∀ i, k ≤ i → T[i]? = m.toks[i]?
theorem TW.step {mS mE mG : List Value} {B k1 : Nat} {w wr w' : World} {m : MetaD} {p2 : Places} {vt : Value} {k : Nat} {T : List TokD} (h : TW mS mE mG B k1 w m p2 vt k T wr) (hg : wr.grownBy w' none) : TW mS mE mG B k1 w m p2 vt k T w' :=
  ⟨Tree.grown_trans h.gr hg (by simp), Nat.le_trans h.sz hg.size, h.s.grown hg .none, h.e.grown hg .none, h.g.grown hg .none, h.len, own_off h.own hg .none, fun i h1 h2 h3 => (h.tok i h1 h2 h3).grown hg (by simp), h.old⟩
theorem tok_off {w : World} {B : Nat} {g n cap : Nat} {xs : List Value} (h : w.ownsRow B 41 4 (.slice (some ⟨g, 0, none⟩) n cap) n xs) {e : TypeId} (he : e ≠ 41) (lo : Nat) : Off w lo e (some g) := fun b hb => by
  cases hb
  rcases h.2 with ⟨h1, _⟩ | ⟨g', c, cur, h1, _, h2, _⟩
  · simp at h1
  · simp only [Value.slice.injEq, Option.some.injEq, Addr.mk.injEq, and_true] at h1
    obtain ⟨rfl, _⟩ := h1
    exact .inr ⟨cur, _, _, h2, fun e' => he e'.symm⟩
/-- a token's copy is laid -/
theorem TW.store {mS mE mG : List Value} {B k1 : Nat} {w wr : World} {m : MetaD} {p2 : Places} {g cap : Nat} {k : Nat} {T : List TokD} (h : TW mS mE mG B k1 w m p2 (.slice (some ⟨g, 0, none⟩) m.toks.length cap) k T wr) (hw : w.heap.size ≤ B) (hk : k < m.toks.length)
    {gi c : Nat} (hgi : g < gi) (hgs : gi < wr.heap.size) (hc : (m.toks[k]'hk).n + 70 ≤ c) (hcm : c ≤ maxLen) (hrow : ∀ j, j < (m.toks[k]'hk).n + 70 → wr.cell? ⟨gi, j, none⟩ = (Tok.row (m.toks[k]'hk).n (m.toks[k]'hk).f 70)[j]?) :
    TW mS mE mG B k1 w m p2 (.slice (some ⟨g, 0, none⟩) m.toks.length cap) (k + 1) (setTok T k (some ⟨gi, 0, none⟩) c) (wr.setCell ⟨g, k * 4 + 2, none⟩ (.slice (some ⟨gi, 0, none⟩) (m.toks[k]'hk).n c)) := by
  have hkT : k < T.length := by rw [h.len]; exact hk
  have hTk : T[k]'hkT = m.toks[k]'hk := by
    have := h.old k (Nat.le_refl _)
    rw [List.getElem?_eq_getElem hkT, List.getElem?_eq_getElem hk] at this
    exact Option.some.inj this
  obtain ⟨h1, h2⟩ := h.own.stored (k * 4 + 2) (.slice (some ⟨gi, 0, none⟩) (m.toks[k]'hk).n c)
  have hgB : B ≤ g := (Step.own_lt h.own (g := g) rfl).1
  rw [← hTk, ← setTok_flat T k _ c hkT] at h1
  refine ⟨Tree.grown_trans h.gr h2 (fun b hb => by cases hb; omega), Nat.le_trans h.sz h2.size, h.s.grown h2 (tok_off h.own (by decide) _), h.e.grown h2 (tok_off h.own (by decide) _), h.g.grown h2 (tok_off h.own (by decide) _), by rw [setTok_len, h.len], by rw [← hTk]; exact h1, fun i hi hi2 hik => ?_, fun i hi => ?_⟩
  · by_cases e : i = k
    · subst e
      rw [setTok_at T i _ c hkT, hTk]
      refine ⟨rfl, rfl, rfl, rfl, rfl, ⟨gi, rfl, by show g + 1 ≤ gi; omega, by simpa using hgs, fun j hj => ?_⟩, hc, hcm⟩
      rw [← hrow j hj]
      exact World.cell?_of_block (heap_setCell_other _ _ _ _ (by show gi ≠ g; omega))
    · have hi3 : i < T.length := by rw [h.len]; exact hi
      have e2 : (setTok T k (some ⟨gi, 0, none⟩) c)[i]'hi2 = T[i]'hi3 := by
        have := setTok_ne T k i (some ⟨gi, 0, none⟩) c e
        rw [List.getElem?_eq_getElem hi2, List.getElem?_eq_getElem hi3] at this
        exact Option.some.inj this
      rw [e2]
      exact (h.tok i hi hi3 (by omega)).grown h2 (fun b hb => by cases hb; show g < g + 1; omega)
  · rw [setTok_ne T k i _ c (by omega)]
    exact h.old i (by omega)
theorem Twin.mono {lo lo' k : Nat} {mS mE mG mT : List Value} {w : World} {m m2 : MetaD} {p2 : Places} (h : Twin lo k mS mE mG mT w m m2 p2) (hl : lo' ≤ lo) : Twin lo' k mS mE mG mT w m m2 p2 :=
  ⟨h.eq, h.len, h.s.mono hl, h.e.mono hl, h.g.mono hl, h.t.mono hl, fun i h1 h2 => (h.tok i h1 h2).mono hl⟩
/-- the mark behind the tokens is laid -/
theorem TW.finish {mS mE mG mT : List Value} {B k1 : Nat} {w wr wa w2 : World} {m : MetaD} {p2 : Places} {q : Option Addr} {cv : Nat} {T : List TokD} (h : TW mS mE mG B k1 w m p2 (.slice q m.toks.length cv) m.toks.length T wr) (hg : wr.grownBy wa none) (hg2 : wa.grownBy w2 (Value.slice q m.toks.length cv).ownBlock)
    {z off : Nat} {x : Value} (hz : z < B) {g cap : Nat} (ho : (w2.setCell ⟨z, off, none⟩ x).ownsRow B 41 4 (.slice (some ⟨g, 0, none⟩) (m.toks.length + k1) cap) (m.toks.length + k1) (T.flatMap tokC ++ mT)) (hc : m.toks.length + k1 ≤ cap) (hm : cap ≤ maxLen) :
    Twin B k1 mS mE mG mT (w2.setCell ⟨z, off, none⟩ x) m { m with toks := T } { p2 with qt := some ⟨g, 0, none⟩, kt := cap } := by
  have h1 := h.step hg
  have g3 : w2.grownBy (w2.setCell ⟨z, off, none⟩ x) (some z) := Tree.grown_setCell (Tree.grown_refl w2) _ _
  have off1 : ∀ {e : TypeId} (he : e ≠ 41), Off wa B e (Value.slice q m.toks.length cv).ownBlock := fun he b hb => by
    cases q with
    | none => simp [Value.ownBlock] at hb
    | some a =>
      rcases h1.own.2 with ⟨h, _⟩ | ⟨g', cap', cur, hv, _⟩
      · simp at h
      · simp only [Value.slice.injEq, Option.some.injEq] at hv
        obtain ⟨rfl, _⟩ := hv
        exact tok_off h1.own he B b hb
  have off2 : ∀ {e : TypeId}, Off w2 B e (some z) := fun b hb => .inl (by cases hb; exact hz)
  refine ⟨rfl, h.len, (h1.s.grown hg2 (off1 (by decide))).grown g3 off2, (h1.e.grown hg2 (off1 (by decide))).grown g3 off2, (h1.g.grown hg2 (off1 (by decide))).grown g3 off2, ⟨⟨g, rfl⟩, ho, hc, hm⟩, fun i hi hi2 => ?_⟩
  obtain ⟨gv, rfl⟩ : ∃ gv, q = some ⟨gv, 0, none⟩ := by
    rcases h1.own.2 with ⟨h, h0⟩ | ⟨g, cap, cur, hv, _⟩
    · omega
    · simp only [Value.slice.injEq] at hv
      exact ⟨g, hv.1⟩
  have hgv : B ≤ gv := (Step.own_lt h1.own (g := gv) rfl).1
  have r := (h1.tok i hi hi2 hi).grown hg2 (fun b hb => by cases hb; show gv < gv + 1; omega)
  exact (r.mono (show B ≤ gv + 1 by omega)).grown g3 (fun b hb => by cases hb; exact hz)
end Go.Proofs.YtfchbodbkdkcfaaDoor.Meta
