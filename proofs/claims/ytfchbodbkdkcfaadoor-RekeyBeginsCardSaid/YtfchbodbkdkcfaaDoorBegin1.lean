/- Begin's answer while it is made. -/
import Derived.Test.YtfchbodbkdkcfaaDoorBegin0
import Derived.Test.YtfchbodbkdkcfaaDoorTree2
namespace Go.Proofs.YtfchbodbkdkcfaaDoor.Rk
open Go.RowKit Go.Lib Go.Proofs.YtfchbodbkdkcfaaDoor.Coll Go.Proofs.YtfchbodbkdkcfaaDoor.Meta Go.Proofs.YtfchbodbkdkcfaaDoor.Rooms

structure BR (b n0 lo : Nat) (w0 : World) (cs ce ca ct cn : Array Value) (m : MetaD) (L : List EpochD) (G : List Sg) (vs ve vg vt : Value) (T : List TokD) (X : World) : Prop where
  bb : BB b cs ce ca ct X
  n : X.heap[n0]? = some (.cells cn 56 (0, 0))
  s : X.ownsRow lo 90 9 vs m.slots.length (m.slots.flatMap slotC)
  e : X.ownsRow lo 64 5 ve L.length (L.flatMap epochC)
  g : X.ownsRow lo 92 3 vg G.length (G.flatMap sgC)
  len : T.length = m.toks.length
  t : X.ownsRow lo 41 4 vt m.toks.length (T.flatMap tokC)
  tok : ∀ i (h : i < m.toks.length) (h2 : i < T.length), TokCp lo X (m.toks[i]'h) (T[i]'h2)
  gr : w0.grownBy X none
  lob : b + 5 ≤ lo
  lon : lo ≤ n0
  wl : w0.heap.size ≤ b
section
variable {b n0 lo : Nat} {w0 : World} {cs ce ca ct cn : Array Value} {m : MetaD} {L : List EpochD} {G : List Sg} {vs ve vg vt : Value} {T : List TokD} {X X' : World}
theorem BR.step (h : BR b n0 lo w0 cs ce ca ct cn m L G vs ve vg vt T X) (hg : X.grownBy X' none) : BR b n0 lo w0 cs ce ca ct cn m L G vs ve vg vt T X' :=
  ⟨h.bb.step hg (by simp), (hg.block _ (Array.getElem?_eq_some_iff.1 h.n).1 (by simp)).trans h.n, own_off h.s hg .none, own_off h.e hg .none, own_off h.g hg .none, h.len, own_off h.t hg .none, fun i a c => (h.tok i a c).off hg .none, Tree.grown_trans h.gr hg (by simp), h.lob, h.lon, h.wl⟩
/-- the metadata's box is written -/
theorem BR.put (h : BR b n0 lo w0 cs ce ca ct cn m L G vs ve vg vt T X) {cn' : Array Value} (hg : X.grownBy X' (some n0)) (hn : X'.heap[n0]? = some (.cells cn' 56 (0, 0))) : BR b n0 lo w0 cs ce ca ct cn' m L G vs ve vg vt T X' := by
  have off : ∀ {e : TypeId}, 56 ≠ e → Off X lo e (some n0) := fun he x hx => by
    cases hx
    exact .inr ⟨_, _, _, h.n, he⟩
  have := h.lob
  have := h.lon
  have := h.wl
  exact ⟨h.bb.step hg (fun x hx => by cases hx; omega), hn, own_off h.s hg (off (by decide)), own_off h.e hg (off (by decide)), own_off h.g hg (off (by decide)), h.len, own_off h.t hg (off (by decide)), fun i a c => (h.tok i a c).off hg (off (by decide)), Tree.grown_trans h.gr hg (fun x hx => by cases hx; omega), h.lob, h.lon, h.wl⟩
/-- an epoch more -/
theorem BR.app (h : BR b n0 lo w0 cs ce ca ct cn m L G vs ve vg vt T X) {ve' : Value} {d : EpochD} (hg : X.grownBy X' ve.ownBlock) (ho : X'.ownsRow lo 64 5 ve' (L.length + 1) (L.flatMap epochC ++ epochC d)) : BR b n0 lo w0 cs ce ca ct cn m (L ++ [d]) G vs ve' vg vt T X' := by
  have hb : ∀ x, ve.ownBlock = some x → lo ≤ x := fun x e => (Step.own_lt h.e e).1
  have := h.lob
  have := h.wl
  have nm : ∀ x, ve.ownBlock = some x → n0 ≠ x := fun x e hx => by
    subst hx
    obtain ⟨cur, e2, fz, h1, h2⟩ := own_offM h.e (by decide) n0 e
    rw [h.n] at h1
    cases h1
    exact h2 rfl
  exact ⟨h.bb.step hg (fun x hx => by have := hb x hx; omega), (hg.block _ (Array.getElem?_eq_some_iff.1 h.n).1 (fun e => nm _ e.symm rfl)).trans h.n, own_off h.s hg (own_typed h.e (by decide) _), by simpa using ho, own_off h.g hg (own_typed h.e (by decide) _), h.len, own_off h.t hg (own_typed h.e (by decide) _),
    fun i a c => (h.tok i a c).off hg (own_typed h.e (by decide) _), Tree.grown_trans h.gr hg (fun x hx => by have := hb x hx; omega), h.lob, h.lon, h.wl⟩
/-- other segments -/
theorem BR.segs (h : BR b n0 lo w0 cs ce ca ct cn m L G vs ve vg vt T X) {vg' : Value} {G' : List Sg} (ho : X.ownsRow lo 92 3 vg' G'.length (G'.flatMap sgC)) : BR b n0 lo w0 cs ce ca ct cn m L G' vs ve vg' vt T X :=
  ⟨h.bb, h.n, h.s, h.e, ho, h.len, h.t, h.tok, h.gr, h.lob, h.lon, h.wl⟩
end
theorem TokEq.of_cp {lo : Nat} {X : World} {L T : List TokD} (hl : T.length = L.length) (h : ∀ i (h : i < L.length) (h2 : i < T.length), TokCp lo X (L[i]'h) (T[i]'h2)) : TokEq L T :=
  ⟨hl, fun i a c => ⟨(h i a c).num, (h i a c).kind, (h i a c).note, (h i a c).n, (h i a c).f⟩⟩
/-- the cells of the answer -/
theorem bg_cells {m : MetaD} {d : EpochD} {r : Rot} {T : List TokD} {q : Places} {cn : Array Value} (h : metaA { m with toks := T } q = cn) {qe qg : Option Addr} {ke kg : Nat} :
    (Tree.patch (cn.setIfInBounds 12 (.slice qe (m.epochs.length + 1) ke)) 14 (rotC r).toList).setIfInBounds 13 (.slice qg (segsR (nOf m) r).length kg) = metaA (bgM m d r T) ⟨q.qs, q.ks, qe, ke, qg, kg, q.qt, q.kt⟩ := by
  subst h
  simp only [metaA, bgM, List.length_append, List.length_cons, List.length_nil]
  rfl
theorem BR.mo {b n0 lo : Nat} {w0 : World} {cs ce ca ct cn : Array Value} {m : MetaD} {d : EpochD} {r : Rot} {qs qe qg qt : Option Addr} {ks ke kg kt : Nat} {T : List TokD} {X : World}
    (h : BR b n0 lo w0 cs ce ca ct cn m (m.epochs ++ [d]) (segsR (nOf m) r) (.slice qs m.slots.length ks) (.slice qe (m.epochs.length + 1) ke) (.slice qg (segsR (nOf m) r).length kg) (.slice qt m.toks.length kt) T X) : MO lo X (bgM m d r T) ⟨qs, ks, qe, ke, qg, kg, qt, kt⟩ := by
  refine ⟨h.s, ?_, h.g, ?_, fun i hi => ?_⟩
  · have := h.e
    simpa [bgM] using this
  · have := h.t
    rw [← h.len] at this
    exact this
  · have hi2 : i < m.toks.length := by rw [← h.len]; exact hi
    have hc := h.tok i hi2 hi
    have := hc.own
    rw [← hc.n, ← hc.f] at this
    exact this
end Go.Proofs.YtfchbodbkdkcfaaDoor.Rk
