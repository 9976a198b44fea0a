/- A drawn region whose stores come last: the loads may be taken first, though the stores write their cells. -/
import Derived.Test.YtfchbodbkdkcfaaDoorRoomy
import Derived.StillTail
namespace Go.Proofs.YtfchbodbkdkcfaaDoor.Late
open Go.RowKit Go.Lib Go.Proofs.YtfchbodbkdkcfaaDoor.Coll

section
variable {P : Program} {ops : Array Oper} {Q : Exit → Act → World → Prop} {md : Region.Mode} {S : World → Prop} {late : List Nat}

/-- 'wpAnyH', the condition asked behind every operation but the late ones -/
def wpAnyL (P : Program) (md : Region.Mode) (ops : Array Oper) (Q : Exit → Act → World → Prop) (S : World → Prop) (late : List Nat) : Nat → Array Bool → Act → World → Prop
  | 0, listed, a, w => Region.ready md ops listed = [] ∧ Q .normal a w
  | fuel + 1, listed, a, w =>
    (Region.ready md ops listed = [] → Q .normal a w) ∧
    ∀ i ∈ Region.ready md ops listed, wpOp P ops Q i (fun a' w' => (i ∉ late → S w') ∧ wpAnyL P md ops Q S late fuel (listed.setIfInBounds i true) a' w') a w

theorem wpAny_of_late : ∀ (fuel : Nat) (listed : Array Bool) (a : Act) (w : World), wpAnyL P md ops Q S late fuel listed a w → wpAny P md ops Q fuel listed a w
  | 0, _, _, _, h => h
  | fuel + 1, _, _, _, h => ⟨h.1, fun i hi => wpOp_mono (fun a' w' h' => wpAny_of_late fuel _ a' w' h'.2) (h.2 i hi)⟩

theorem wpAnyL_first {T : World → Prop} {i : Nat} {oi : Oper} {v : Value} (hi : ops[i]? = some oi) (hsel : ∀ (j : Nat) (o : Oper) cs b, ops[j]? = some o → o.op ≠ .select cs b)
    (hQ : ∀ c a w, Q (.panic c) (a.put oi.dst v) w → Q (.panic c) a w) (hl : (i ∉ late ∧ (∀ j ∈ late, Region.waitsFor md ops j i = true) ∧ ∀ w, S w → T w) ∨ (i ∈ late ∧ ∀ w, T w)) :
    ∀ (fuel : Nat) (listed : Array Bool) (a : Act) (w : World),
      (∀ j oj, ops[j]? = some oj → j ≠ i → listed.getD j true = false → (∀ e ∈ oj.after, Region.binds md e = true → e.on ≠ i) → oi.apart ops oj = true) →
      i ∈ Region.ready md ops listed → YieldsIf P ops T oi v a → (i ∉ late → S w) →
      wpAnyL P md ops Q S late fuel (listed.setIfInBounds i true) (a.put oi.dst v) w → wpAnyL P md ops Q S late (fuel + 1) listed a w := by
  have hT : ∀ w, (i ∉ late → S w) → T w := fun w h => by
    rcases hl with ⟨h1, _, h2⟩ | ⟨_, h2⟩
    · exact h2 w (h h1)
    · exact h2 w
  intro fuel
  induction fuel with
  | zero =>
    intro listed a w _ hr hy hS H
    refine ⟨fun h => (by rw [h] at hr; cases hr), fun j hj => ?_⟩
    by_cases hji : j = i
    · subst hji; exact hy.wpOp hi (hT _ hS) ⟨hS, H⟩
    · have := ready_mono hj hji
      rw [H.1] at this
      cases this
  | succ fuel ih =>
    intro listed a w hfree hr hy hS H
    refine ⟨fun h => (by rw [h] at hr; cases hr), fun j hj => ?_⟩
    by_cases hji : j = i
    · subst hji; exact hy.wpOp hi (hT _ hS) ⟨hS, H⟩
    · have h1 := H.2 j (ready_mono hj hji)
      obtain ⟨hjun, oj, hoj, hall⟩ := mem_ready.1 hj
      have hnot : ∀ e ∈ oj.after, Region.binds md e = true → e.on ≠ i := fun e he hb heq => by
        have h1 := hall e he hb
        have h0 := (mem_ready.1 hr).1
        rw [heq] at h1
        rcases Nat.lt_or_ge i listed.size with h' | h'
        · simp [h'] at h0 h1; rw [h0] at h1; cases h1
        · simp [Array.getElem?_eq_none h'] at h1
      have hnl : ∀ w', (j ∉ late → S w') → i ∉ late → S w' := fun w' h hil => by
        rcases hl with ⟨_, hl, _⟩ | ⟨hl, _⟩
        · refine h fun hjl => ?_
          obtain ⟨o2, ho2, e, he, hb, heq⟩ := Region.waitsFor_spec (hl j hjl)
          rw [hoj] at ho2
          cases ho2
          exact hnot e he hb heq
        · exact absurd hl hil
      have h2 := wpOp_putIf hoj (hfree j oj hoj hji hjun hnot) (fun cs b => hsel i oi cs b hi) (fun cs b => hsel j oj cs b hoj) hQ hy h1
      have hfree' : ∀ k ok, ops[k]? = some ok → k ≠ i → (listed.setIfInBounds j true).getD k true = false →
          (∀ e ∈ ok.after, Region.binds md e = true → e.on ≠ i) → oi.apart ops ok = true := fun k ok hk hki hun hno => by
        refine hfree k ok hk hki ?_ hno
        by_cases hjk : j = k
        · subst hjk; exact hjun
        · rw [getD_set_ne true hjk] at hun; exact hun
      refine wpOp_mono (fun a' w' h3 => ⟨h3.2.1, ih (listed.setIfInBounds j true) a' w' hfree' (ready_mono hr (Ne.symm hji)) h3.1 (hnl w' h3.2.1) ?_⟩) h2
      rw [Array.setIfInBounds_comm _ _ hji]
      exact h3.2.2
end

section
variable {P : Program} {Q : Exit → Act → World → Prop} {S : World → Prop} {a : Act} {w : World} {fuel : Nat} {listed : Array Bool} {late : List Nat}
theorem begin_ {id : Nat} {l : List Oper} (late : List Nat) (n : Nat) (hn : l.length = n) (hm : P.follows .mixedOrders = true) (hS : S w.drew)
    (h : S w.drew → wpAnyL P .any l.toArray (NoPanic Q) S late n (Array.replicate n false) a w.drew) : (Code.region id l.toArray true).wp P Q a w := by
  subst hn
  refine wp_region_noPanic (wp_region_any hm (wpAny_of_late (S := S) (late := late) _ _ _ _ ?_))
  have := h hS
  simpa using this
section
variable {i : Nat} {o : Oper} {tl l : List Oper} (hi : l.drop i = o :: tl) (hg : Region.wanted o (yielded l.toArray a.tmps) = true) (hs : Region.noSelect l.toArray = true) (hf : Region.free .any l.toArray listed i = true) (hr : (Region.ready .any l.toArray listed).contains i = true)
include hi hg hs hf hr
theorem t_val (hn : i ∉ late) (hl : (late.all fun j => Region.waitsFor .any l.toArray j i) = true) (hS : S w) (v : Value) (hv : ∀ w, S w → (execOp a.eval o).run P w = .ok (.value v) w)
    (h : wpAnyL P .any l.toArray (NoPanic Q) S late fuel (listed.setIfInBounds i true) (a.put o.dst v) w) : wpAnyL P .any l.toArray (NoPanic Q) S late (fuel + 1) listed a w :=
  wpAnyL_first (T := S) (Step.drop_get hi) (Region.noSelect_spec hs) (fun _ _ _ h => h) (.inl ⟨hn, by simpa [List.all_eq_true] using hl, fun _ h => h⟩) fuel listed a w (Region.free_spec (Step.drop_get hi) hf) (by simpa using hr) (.inl ⟨hg, hv⟩) (fun _ => hS) h
theorem t_load1 (hn : i ∉ late) (hl : (late.all fun j => Region.waitsFor .any l.toArray j i) = true) (hS : S w) (ty : TypeId) (x : Operand) (ho : o.op = .load ty x) (b off : Nat) (hx : a.eval x = .pointer (some ⟨b, off, none⟩)) {d : TypeDesc} (v : Value) (hA : ∀ w, S w → w.cell? ⟨b, off, none⟩ = some v) (hu : P.underlying ty = some d) (hd : Step.oneD d = true)
    (h : wpAnyL P .any l.toArray (NoPanic Q) S late fuel (listed.setIfInBounds i true) (a.put o.dst v) w) : wpAnyL P .any l.toArray (NoPanic Q) S late (fuel + 1) listed a w :=
  t_val hi hg hs hf hr hn hl hS v (fun w hw => by
    unfold execOp
    simp only [ho, hx, Instr.loadAt, Instr.sureAddr, Sem.run_bind, Sem.run_pure, Result.andThen_ok, Step.run_load1 ty b off hu hd (hA w hw)]) h
/-- a value that is the same in every world, of an early operation or a late one -/
theorem t_pure (hS : i ∉ late → S w) (hl : i ∈ late ∨ (late.all fun j => Region.waitsFor .any l.toArray j i) = true) (v : Value) (hv : ∀ w, (execOp a.eval o).run P w = .ok (.value v) w)
    (h : wpAnyL P .any l.toArray (NoPanic Q) S late fuel (listed.setIfInBounds i true) (a.put o.dst v) w) : wpAnyL P .any l.toArray (NoPanic Q) S late (fuel + 1) listed a w :=
  wpAnyL_first (T := fun _ => True) (Step.drop_get hi) (Region.noSelect_spec hs) (fun _ _ _ h => h) (by
    by_cases hn : i ∈ late
    · exact .inr ⟨hn, fun _ => trivial⟩
    · rcases hl with h | hl
      · exact absurd h hn
      · exact .inl ⟨hn, by simpa [List.all_eq_true] using hl, fun _ _ => trivial⟩) fuel listed a w (Region.free_spec (Step.drop_get hi) hf) (by simpa using hr) (.inl ⟨hg, fun w _ => hv w⟩) hS h
theorem t_field (hS : i ∉ late → S w) (hl : i ∈ late ∨ (late.all fun j => Region.waitsFor .any l.toArray j i) = true) (s : TypeId) (x : Operand) (f : Nat) (ho : o.op = .fieldAddr s x f) (b off : Nat) (hx : a.eval x = .pointer (some ⟨b, off, none⟩)) {fs : Array Field} {fd : Field} (hu : P.underlying s = some (.struct fs)) (hfd : fs[f]? = some fd) {sz : Nat} (hi' : (P.info? fd.type).map (·.size) = some sz) (hsz : sz ≠ 0) (off2 : Nat) (ho2 : off + fd.offset = off2)
    (h : wpAnyL P .any l.toArray (NoPanic Q) S late fuel (listed.setIfInBounds i true) (a.put o.dst (.pointer (some ⟨b, off2, none⟩))) w) : wpAnyL P .any l.toArray (NoPanic Q) S late (fuel + 1) listed a w :=
  t_pure hi hg hs hf hr hS hl _ (fun w => by
    subst ho2
    unfold execOp
    simp only [ho, hx, Sem.run_bind, Step.run_field0 s b off f hu hfd hi' hsz, Result.andThen_ok, Sem.run_pure]) h
end
theorem t_one {i : Nat} {o : Oper} {tl l : List Oper} (hi : l.drop i = o :: tl) (hg : Region.wanted o (yielded l.toArray a.tmps) = true) (hr : Region.ready .any l.toArray listed = [i])
    (h : o.wp P a w (fun a' w' => (i ∉ late → S w') ∧ wpAnyL P .any l.toArray (NoPanic Q) S late fuel (listed.setIfInBounds i true) a' w') (NoPanic Q)) : wpAnyL P .any l.toArray (NoPanic Q) S late (fuel + 1) listed a w :=
  ⟨fun h0 => (by rw [hr] at h0; cases h0), fun j hj => by
    rw [hr] at hj
    obtain rfl : j = i := by simpa using hj
    unfold wpOp
    simp only [Step.drop_get hi]
    rw [if_pos hg]
    exact .inl h⟩
theorem t_end {ops : Array Oper} (hr : Region.ready .any ops listed = []) (h : Q .normal a w) : ∀ fuel, wpAnyL P .any ops (NoPanic Q) S late fuel listed a w
  | 0 => ⟨hr, NoPanic.normal h⟩
  | _ + 1 => ⟨fun _ => NoPanic.normal h, by rw [hr]; simp⟩
end
end Go.Proofs.YtfchbodbkdkcfaaDoor.Late
