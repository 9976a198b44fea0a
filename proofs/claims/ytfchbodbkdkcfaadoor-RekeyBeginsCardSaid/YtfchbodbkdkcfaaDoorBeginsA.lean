/- Plain laws for RekeyBegins: what two answers of Begin have in common; what spoil leaves. -/
import Derived.Test.YtfchbodbkdkcfaaDoorSpoil13
import Derived.Test.YtfchbodbkdkcfaaDoorOpenS
import Derived.Test.YtfchbodbkdkcfaaDoorBegin
import Derived.Test.YtfchbodbkdkcfaaDoorRefBegin
import Derived.Test.YtfchbodbkdkcfaaDoorUntouched
import Derived.Test.YtfchbodbkdkcfaaDoorNextsLaw
namespace Go.Proofs.YtfchbodbkdkcfaaDoor.Rk
open Go.RowKit Go.Lib Go.Proofs.YtfchbodbkdkcfaaDoor.Coll Go.Proofs.YtfchbodbkdkcfaaDoor.Meta Go.Proofs.YtfchbodbkdkcfaaDoor.Rooms

theorem twin_min {lo : Nat} {mS mE mG mT : List Value} {w : World} {m m2 : MetaD} {p p2 : Places} (h : MIn w m p) (t : Meta.Twin lo 2 mS mE mG mT w m m2 p2) : MIn w m2 p2 := by
  obtain ⟨T, rfl⟩ : ∃ T, m2 = { m with toks := T } := ⟨m2.toks, t.eq⟩
  have hl : T.length = m.toks.length := t.len
  have nn : ∀ {q : Option Addr}, (∃ g, q = some ⟨g, 0, none⟩) → ∀ {X : Prop}, q = none → X := fun ⟨g, hg⟩ _ h => by rw [hg] at h; cases h
  refine ⟨⟨t.s.lv, by have := t.s.room; show m.slots.length ≤ _; omega, t.s.max, nn t.s.ad, h.s.reach⟩, ⟨t.e.lv, by have := t.e.room; show m.epochs.length ≤ _; omega, t.e.max, nn t.e.ad, h.e.reach⟩, ⟨t.g.lv, by have := t.g.room; show m.segs.length ≤ _; omega, t.g.max, nn t.g.ad, h.g.reach⟩, ⟨t.t.lv, by have := t.t.room; show T.length ≤ _; omega, t.t.max, nn t.t.ad, by show T.length * 64 ≤ _; rw [hl]; exact h.t.reach⟩, fun x hx => ?_⟩
  obtain ⟨i, hi, rfl⟩ := List.getElem_of_mem hx
  have hi2 : i < m.toks.length := by rw [← hl]; exact hi
  have r := t.tok i hi2 hi
  obtain ⟨k1, k2, k3, k4, k5⟩ := h.tok _ (List.getElem_mem hi2)
  obtain ⟨g, hg, _, _, hc⟩ := r.q
  refine ⟨by rw [r.n]; have := r.room; omega, r.max, fun e => (by rw [hg] at e; cases e), fun j hj => ⟨g, 0, hg, ?_⟩, by rw [r.n]; exact k5⟩
  rw [r.n] at hj
  rw [Nat.zero_add, hc j (by omega), Tok.row_get _ _ _ _ hj, r.f]
theorem own_lv0 {α : Type} {cs : α → List Value} {w : World} {lo size n : Nat} {e : TypeId} {q : Option Addr} {cap : Nat} {L : List α} (h : w.ownsRow lo e size (.slice q n cap) n (L.flatMap cs)) : LV cs w q L := LV.of_own (ms := []) (by simpa using h)
theorem own_max {w : World} {lo : Nat} {e : TypeId} {size n : Nat} {q : Option Addr} {c : Nat} {xs : List Value} (h : w.ownsRow lo e size (.slice q n c) n xs) : n ≤ 9223372036854775807 := by
  rcases h.2 with ⟨_, h⟩ | ⟨g, cap, cur, hv, _, _, h1, h2, _⟩
  · omega
  · exact Nat.le_trans h1 h2
theorem own_keep {w w' : World} {lo : Nat} {e : TypeId} {size n : Nat} {v : Value} {xs : List Value} (h : w.ownsRow lo e size v n xs) (hk : ∀ k, lo ≤ k → k < w.heap.size → w'.heap[k]? = w.heap[k]?) : w'.ownsRow lo e size v n xs := by
  refine ⟨h.1, ?_⟩
  rcases h.2 with h1 | ⟨g, cap, cur, h1, h2, h3, h4⟩
  · exact .inl h1
  · exact .inr ⟨g, cap, cur, h1, h2, (hk g h2 (Array.getElem?_eq_some_iff.1 h3).1).trans h3, h4⟩
theorem MO.keep {lo : Nat} {w w' : World} {m : MetaD} {p : Places} (h : MO lo w m p) (hk : ∀ k, lo ≤ k → k < w.heap.size → w'.heap[k]? = w.heap[k]?) : MO lo w' m p :=
  ⟨own_keep h.s hk, own_keep h.e hk, own_keep h.g hk, own_keep h.t hk, fun i hi => own_keep (h.tok i hi) hk⟩
theorem MO.hi {lo : Nat} {w : World} {m : MetaD} {p : Places} (h : MO lo w m p) : MHi w.heap.size p.qs p.qe p.qg p.qt m.toks := by
  have f : ∀ {e : TypeId} {size n c : Nat} {q : Option Addr} {xs : List Value}, w.ownsRow lo e size (.slice q n c) n xs → ∀ a, q = some a → a.block < w.heap.size := fun {e size n c q xs} h a ha => by
    subst ha
    exact (Step.own_lt h (g := a.block) rfl).2
  exact ⟨f h.s, f h.e, f h.g, f h.t, fun i hi => f (h.tok i hi)⟩
/-- what an answer of Begin is -/
structure Ans (m : MetaD) (d : EpochD) (R : Rot) (E : Int) (r : MetaD) : Prop where
  ok : E = 0 → r = bgM m d R r.toks ∧ TokEq m.toks r.toks
  no : E ≠ 0 → r = mZ
theorem Ans.like {m : MetaD} {T : List TokD} {d : EpochD} {R : Rot} {E : Int} {ra rw : MetaD} {pa pw : Places} {la lw : Nat} {w : World} (ha : Ans { m with toks := T } d R E ra) (hw : Ans m d R E rw) (oa : MO la w ra pa) (ow : MO lw w rw pw)
    (hT : TokEq m.toks T) : Like w rw pw ra pa := by
  by_cases hE : E = 0
  · obtain ⟨a1, a2⟩ := ha.ok hE
    obtain ⟨w1, w2⟩ := hw.ok hE
    obtain ⟨Ta, hTa⟩ : ∃ Ta, ra.toks = Ta := ⟨_, rfl⟩
    obtain ⟨Tw, hTw⟩ : ∃ Tw, rw.toks = Tw := ⟨_, rfl⟩
    rw [hTa] at a1 a2
    rw [hTw] at w1 w2
    clear hTa hTw
    subst a1 w1
    have l1 : Ta.length = T.length := a2.len
    have l2 : Tw.length = m.toks.length := w2.len
    have l3 : T.length = m.toks.length := hT.len
    refine ⟨rfl, by show Ta.length = Tw.length; omega, own_lv0 ow.s, own_lv0 oa.s, own_lv0 ow.e, own_lv0 oa.e,
      own_lv0 ow.g, own_lv0 oa.g, own_lv0 ow.t, own_lv0 oa.t, fun k hk hk2 => ?_, own_max ow.s, own_max ow.e, own_max ow.g, own_max ow.t⟩
    have hk : k < Tw.length := hk
    have hk2 : k < Ta.length := hk2
    obtain ⟨x1, x2, x3, x4, x5⟩ := a2.eq k (by show k < T.length; omega) hk2
    obtain ⟨y1, y2, y3, y4, y5⟩ := w2.eq k (by omega) hk
    obtain ⟨z1, z2, z3, z4, z5⟩ := hT.eq k (by omega) (by omega)
    have oa' := (own_il (oa.tok k hk2)).2.2
    have ow' := (own_il (ow.tok k hk)).2.2
    have hn : (Ta[k]'hk2).n = (Tw[k]'hk).n := by rw [x4, y4]; exact z4
    have hf : (Ta[k]'hk2).f = (Tw[k]'hk).f := by rw [x5, y5]; exact z5
    exact ⟨by show (Ta[k]'hk2).num = (Tw[k]'hk).num; rw [x1, y1]; exact z1, by show (Ta[k]'hk2).kind = (Tw[k]'hk).kind; rw [x2, y2]; exact z2, by show (Ta[k]'hk2).note = (Tw[k]'hk).note; rw [x3, y3]; exact z3, hn, own_max (ow.tok k hk), ow', by have := oa'; rw [show ((bgM { m with toks := T } d R Ta).toks[k]'hk2) = Ta[k]'hk2 from rfl, hn, hf] at this; exact this⟩
  · have e1 := ha.no hE
    have e2 := hw.no hE
    subst e1 e2
    exact ⟨rfl, rfl, own_lv0 ow.s, own_lv0 oa.s, own_lv0 ow.e, own_lv0 oa.e,
      own_lv0 ow.g, own_lv0 oa.g, own_lv0 ow.t, own_lv0 oa.t, fun k hk _ => absurd (show k < 0 from hk) (Nat.not_lt_zero _), own_max ow.s, own_max ow.e, own_max ow.g, own_max ow.t⟩
theorem segsR_len (n : Int) (r : Rot) : (segsR n r).length ≤ 2 := by
  unfold segsR
  exact Coll.segsOf_len _ _ _ _
structure Bnd (r : MetaD) : Prop where
  s : r.slots.length * 88 + 352 ≤ 140737488355328
  e : r.epochs.length * 72 + 288 ≤ 140737488355328
  g : r.segs.length * 24 + 96 ≤ 140737488355328
  t : r.toks.length * 64 + 256 ≤ 140737488355328
  n : ∀ i (h : i < r.toks.length), (r.toks[i]'h).n ≤ 17592186043904
theorem Ans.bnd {m : MetaD} {d : EpochD} {R : Rot} {E : Int} {r : MetaD} {w : World} {p : Places} (h : Ans m d R E r) (hm : MIn w m p) : Bnd r := by
  by_cases hE : E = 0
  · obtain ⟨a1, a2⟩ := h.ok hE
    obtain ⟨T, hT⟩ : ∃ T, r.toks = T := ⟨_, rfl⟩
    rw [hT] at a1 a2
    clear hT
    subst a1
    have l1 : T.length = m.toks.length := a2.len
    have b1 := hm.s.reach
    have b2 := hm.e.reach
    have b3 := hm.t.reach
    unfold reachBytes at b1 b2 b3
    refine ⟨by show m.slots.length * 88 + 352 ≤ _; omega, by show (m.epochs ++ [d]).length * 72 + 288 ≤ _; rw [List.length_append, List.length_singleton]; omega, by show (segsR (nOf m) R).length * 24 + 96 ≤ _; have := segsR_len (nOf m) R; omega, by show T.length * 64 + 256 ≤ _; rw [l1]; omega, fun i hi => ?_⟩
    have hi : i < T.length := hi
    obtain ⟨_, _, _, x4, _⟩ := a2.eq i (by omega) hi
    show (T[i]'hi).n ≤ _
    rw [x4]
    exact (hm.tok _ (List.getElem_mem (by omega))).2.2.2.2
  · have e1 := h.no hE
    subst e1
    exact ⟨by decide, by decide, by decide, by decide, fun i hi => absurd (show i < 0 from hi) (Nat.not_lt_zero _)⟩
/-- what the law of Begin holds -/
structure At2 (w0 : World) (S cn : Array Value) (b0 n0 lo : Nat) (m : MetaD) (p : Places) (m2 : MetaD) (p2 : Places) (X : World) : Prop where
  box : X.heap[b0]? = some (.cells S 68 (0, 0))
  nrow : X.heap[n0]? = some (.cells cn 56 (0, 0))
  min : MIn X m p
  twin : Meta.Twin lo 2 mS13 mE13 mG13 mT13 X m m2 p2
  tab : Table 0 X
  tl : 0 < X.heap.size
  below : Below w0.heap.size w0 X
theorem At2.on {w0 X X' : World} {S cn : Array Value} {b0 n0 lo : Nat} {m m2 : MetaD} {p p2 : Places} (h : At2 w0 S cn b0 n0 lo m p m2 p2 X) (hb : Below X.heap.size X X') : At2 w0 S cn b0 n0 lo m p m2 p2 X' :=
  ⟨(hb.block _ (Array.getElem?_eq_some_iff.1 h.box).1).trans h.box, (hb.block _ (Array.getElem?_eq_some_iff.1 h.nrow).1).trans h.nrow, min_below h.min hb, h.twin.below hb, tab_below h.tab h.tl hb, Nat.lt_of_lt_of_le h.tl hb.size, h.below.trans (hb.mono h.below.size)⟩
theorem SpW.below {B lo hi : Nat} {w0 w w' : World} (hb : Below w0.heap.size w0 w) (hlo : w0.heap.size ≤ lo) (hB : w.heap.size = B) (h : SpW B lo hi w w') : Below w0.heap.size w0 w' :=
  ⟨h.os.trans hb.os, h.tape.trans hb.tape, h.output.trans hb.output, Nat.le_trans hb.size h.size, fun k hk => by
    have : k < w.heap.size := Nat.lt_of_lt_of_le hk hb.size
    rw [h.block k (by omega) (.inl (by omega)), hb.block k hk]⟩
theorem tokEq_of_twin {lo : Nat} {mS mE mG mT : List Value} {w : World} {m : MetaD} {T : List TokD} {p2 : Places} (t : Meta.Twin lo 2 mS mE mG mT w m { m with toks := T } p2) : TokEq m.toks T :=
  ⟨t.len, fun i h h2 => by
    have r := t.tok i h h2
    exact ⟨r.num, r.kind, r.note, r.n, r.f⟩⟩
end Go.Proofs.YtfchbodbkdkcfaaDoor.Rk
