/- Parts of the proof of TweakFlips. Dig2: digest: a state in its block; bytes copied into it. Laws. -/
import Derived.Test.YtmifebcaifbmoaaGreatDoorK22
/- Dig2 -/
section
namespace Go.Proofs.YtmifebcaifbmoaaGreatDoor.Dig
open Go.RowKit Go.Lib Go.Proofs.YtmifebcaifbmoaaGreatDoor.Blk

section
variable {P : Program} {ops : Array Oper} {Q2 : Act → Prop} {o : Oper} {rest : List Oper} {a : Act} {w : World}
theorem s_field (hg : Region.wanted o (yielded ops a.tmps) = true) (s : TypeId) (x : Operand) (f : Nat) (ho : o.op = .fieldAddr s x f) (b off : Nat) (hx : a.eval x = .pointer (some ⟨b, off, none⟩))
    {fs : Array Field} {fd : Field} {sz : Nat} (hu : P.underlying s = some (.struct fs)) (hf : fs[f]? = some fd) (hi : (P.info? fd.type).map (·.size) = some sz) (hs : sz ≠ 0) (off2 : Nat) (ho2 : off + fd.offset = off2)
    (h : wpStill P ops w Q2 rest (a.put o.dst (.pointer (some ⟨b, off2, none⟩)))) : wpStill P ops w Q2 (o :: rest) a :=
  Still.s_val hg _ (by
    subst ho2
    unfold execOp; rw [ho]
    simp only [hx, Sem.run_bind, Step.run_field0 s b off f hu hf hi hs, Result.andThen_ok, Sem.run_pure]) h
/-- a part of an array behind a pointer -/
theorem s_sliceAB (hg : Region.wanted o (yielded ops a.tmps) = true) (t e : TypeId) (x y z : Operand) (ho : o.op = .slice t x (some y) (some z) none) (b off : Nat) (hx : a.eval x = .pointer (some ⟨b, off, none⟩)) (lo hi n : Nat) (hy : a.eval y = .int .i64 lo) (hz : a.eval z = .int .i64 hi) (hlt : lo ≤ hi) (hhn : hi ≤ n) (hlo : lo < n)
    (hu : P.underlying t = some (.array n e)) (hi' : (P.info? e).map (·.size) = some 1) (h : wpStill P ops w Q2 rest (a.put o.dst (.slice (some ⟨b, off + lo, none⟩) (hi - lo) (n - lo)))) : wpStill P ops w Q2 (o :: rest) a :=
  Still.s_val hg _ (by
    unfold execOp
    cases hie : P.info? e with
    | none => simp [hie] at hi'
    | some ie =>
      simp only [hie, Option.map_some, Option.some.injEq] at hi'
      have hs : (sizeOf e).run P w = .ok 1 w := by simp [sizeOf, typeInfo, hie, hi']

      have h3 : ¬ n = lo := by omega

      have hr : (Instr.sliceAt t (.pointer (some ⟨b, off, none⟩)) (some (.int .i64 lo)) (some (.int .i64 hi)) none).run P w = .ok (.slice (some ⟨b, off + lo, none⟩) (hi - lo) (n - lo)) w := by
        simp [Instr.sliceAt, go_sem, run_underlying hu, hs, Instr.sliceBounds, Instr.sliceBound, Instr.sureAddr, asIntOf, hlt, hhn, h3, Addr.add_mid]
      simp only [ho, hx, hy, hz, Option.map_some, Option.map_none, Sem.run_bind, hr, Result.andThen_ok, Sem.run_pure]) h
end

/-- bytes at hand, as values -/
theorem BU.list {w : World} {g off n B : Nat} (h : BU w (some ⟨g, off, none⟩) n B) : ∀ k, k ≤ n → ∃ cs : List Value, cs.length = k ∧ (∀ j v, cs[j]? = some v → w.cell? ⟨g, off + j, none⟩ = some v) ∧ ∀ v ∈ cs, ∃ z, v = .int .u8 z
  | 0, _ => ⟨[], rfl, fun j v hv => by simp at hv, fun v hv => by cases hv⟩
  | k + 1, hk => by
    obtain ⟨cs, e1, e2, e3⟩ := h.list k (by omega)
    obtain ⟨_, _, e, _, z, hz⟩ := h k (by omega)
    cases e
    refine ⟨cs ++ [.int .u8 z], by simp [e1], fun j v hj => ?_, fun v hv => ?_⟩
    · by_cases hjk : j < k
      · rw [List.getElem?_append_left (by omega)] at hj
        exact e2 j v hj
      · have hl := (List.getElem?_eq_some_iff.1 hj).1
        simp [e1] at hl
        obtain rfl : j = k := by omega
        rw [List.getElem?_append_right (by omega), e1, Nat.sub_self] at hj
        cases hj
        exact hz
    · rcases List.mem_append.1 hv with hv | hv
      · exact e3 v hv
      · simp at hv
        exact ⟨z, hv⟩
section
variable {P : Program} {a : Act} {w : World} {o : Oper} {K : Act → World → Prop} {Q : Exit → Act → World → Prop}
/-- bytes copied into a block that is told by a property -/
theorem w_copyP (dT sT elem : TypeId) (x y : Operand) (ho : o.op = .call { callee := .builtin .copy, args := #[x, y], argTypes := #[dT, sT] }) (hu : P.underlying dT = some (.slice elem)) (hs : (P.info? elem).map (·.size) = some 1)
    (b off dLen dCap : Nat) (hx : a.eval x = .slice (some ⟨b, off, none⟩) dLen dCap) (g so sLen sCap : Nat) (hy : a.eval y = .slice (some ⟨g, so, none⟩) sLen sCap) {T : TypeId} {n B : Nat} {p : Nat → Value → Prop} (hb : RowP w b T n p) (hbu : BU w (some ⟨g, so, none⟩) sLen B) (hfit : off + min sLen dLen ≤ n) (hp : ∀ j z, j < min sLen dLen → p (off + j) (.int .u8 z))
    (h : ∀ w', RowP w' b T n p → w.grownBy w' (some b) → K (a.put o.dst (.int .i64 (min sLen dLen : Nat))) w') : o.wp P a w K Q := by
  obtain ⟨cs, e1, e2, e3⟩ := hbu.list (min sLen dLen) (Nat.min_le_left _ _)
  have hb2 := hb
  obtain ⟨cur, h1, h2, h3⟩ := hb2
  refine Tw.w_copy dT sT elem x y ho hu hs b off dLen dCap hx ⟨g, so, none⟩ sLen sCap hy cs h1 (by rw [e1]) (fun j v hj => by rw [Addr.add_mid]; exact e2 j v hj) (by omega) (fun v hv => by obtain ⟨z, rfl⟩ := e3 v hv; rfl) ?_
  rw [e1]
  refine h _ ⟨_, setRow_heap w b cur _ T (0, 0) h1, by rw [Tree.patch_size _ _ _ (by omega)]; exact h2, fun j hj => ?_⟩ ⟨rfl, rfl, rfl, by simp, fun x _ hc => setRow_other w b x _ (fun e => hc (by rw [e]))⟩
  by_cases hin : off ≤ j ∧ j < off + cs.length
  · obtain ⟨i, rfl⟩ : ∃ i, j = off + i := ⟨j - off, by omega⟩
    have hi : i < cs.length := by omega
    have hv : cs[i]? = some cs[i] := List.getElem?_eq_getElem hi
    obtain ⟨z, hz⟩ := e3 _ (List.getElem_mem hi)
    exact ⟨_, (Seg.patch_in cur off cs (by omega) i hi).trans hv, by rw [hz]; exact hp i z (by omega)⟩
  · obtain ⟨v, hv, hpv⟩ := h3 j hj
    exact ⟨v, (Seg.patch_out cur off cs (by omega) j (by omega)).trans hv, hpv⟩
end

/-- a state of SHA-256 that has taken c bytes -/
def stP (c : Nat) (j : Nat) (v : Value) : Prop :=
  if j = 0 then v = .int .i64 32 else if j = 1 then v = .int .i64 64 else if j = 2 then v = .int .i64 4
  else if j = 3 then v = .func (.func 193) #[] #[] else if j = 4 then v = .int .i64 256
  else if j = 5 then v = .int .u64 c else if j < 14 then ∃ z, v = .int .u64 z else ∃ z, v = .int .u8 z
theorem stP_word (c k : Nat) (hk : k < 8) (z : Int) : stP c (6 + k) (.int .u64 z) := by
  unfold stP
  rw [if_neg (by omega), if_neg (by omega), if_neg (by omega), if_neg (by omega), if_neg (by omega), if_neg (by omega), if_pos (by omega)]
  exact ⟨z, rfl⟩
theorem stP_word' (c k : Nat) (hk : k < 8) (v : Value) (h : stP c (6 + k) v) : ∃ z, v = .int .u64 z := by
  unfold stP at h
  rwa [if_neg (by omega), if_neg (by omega), if_neg (by omega), if_neg (by omega), if_neg (by omega), if_neg (by omega), if_pos (by omega)] at h
theorem stP_half (c k : Nat) (z : Int) : stP c (14 + k) (.int .u8 z) := by
  unfold stP
  rw [if_neg (by omega), if_neg (by omega), if_neg (by omega), if_neg (by omega), if_neg (by omega), if_neg (by omega), if_neg (by omega)]
  exact ⟨z, rfl⟩
theorem stP_half' (c k : Nat) (v : Value) (h : stP c (14 + k) v) : ∃ z, v = .int .u8 z := by
  unfold stP at h
  rwa [if_neg (by omega), if_neg (by omega), if_neg (by omega), if_neg (by omega), if_neg (by omega), if_neg (by omega), if_neg (by omega)] at h
/-- the count turned -/
theorem RowP.count {w w' : World} {b : Nat} {T : TypeId} {c d : Nat} {cs : Array Value} (h : RowP w b T 142 (stP c)) (hc : w.heap[b]? = some (.cells cs T (0, 0))) (h' : w'.heap[b]? = some (.cells (cs.setIfInBounds 5 (.int .u64 (d : Nat))) T (0, 0))) : RowP w' b T 142 (stP d) := by
  obtain ⟨cs', e1, e2, e3⟩ := h
  rw [hc] at e1
  cases e1
  refine ⟨_, h', by simpa using e2, fun i hi => ?_⟩
  obtain ⟨u, hu, hpu⟩ := e3 i hi
  by_cases hij : 5 = i
  · subst hij
    exact ⟨_, by rw [Array.getElem?_setIfInBounds_self_of_lt (Array.getElem?_eq_some_iff.1 hu).1], rfl⟩
  · refine ⟨u, by rw [Array.getElem?_setIfInBounds_ne hij]; exact hu, ?_⟩
    unfold stP at hpu ⊢
    rwa [if_neg (fun e => hij e.symm : ¬ i = 5)] at hpu ⊢
theorem RowP.half {w : World} {b : Nat} {T : TypeId} {c : Nat} (h : RowP w b T 142 (stP c)) (d n B : Nat) (hd : d + n ≤ 128) (hB : b < B) : BU w (some ⟨b, 14 + d, none⟩) n B := fun i hi => by
  obtain ⟨v, e, hp⟩ := h.cell (j := 14 + d + i) (by omega)
  rw [Nat.add_assoc] at hp
  obtain ⟨z, rfl⟩ := stP_half' c _ v hp
  exact ⟨b, _, rfl, hB, z, e⟩
theorem RowP.at_ {w : World} {b : Nat} {T : TypeId} {c : Nat} (h : RowP w b T 142 (stP c)) : w.cell? ⟨b, 0, none⟩ = some (.int .i64 32) ∧ w.cell? ⟨b, 1, none⟩ = some (.int .i64 64) ∧ w.cell? ⟨b, 2, none⟩ = some (.int .i64 4) ∧ w.cell? ⟨b, 3, none⟩ = some (.func (.func 193) #[] #[]) ∧ w.cell? ⟨b, 5, none⟩ = some (.int .u64 c) := by
  obtain ⟨v0, e0, rfl⟩ := h.cell (j := 0) (by decide)
  obtain ⟨v1, e1, rfl⟩ := h.cell (j := 1) (by decide)
  obtain ⟨v2, e2, rfl⟩ := h.cell (j := 2) (by decide)
  obtain ⟨v3, e3, rfl⟩ := h.cell (j := 3) (by decide)
  obtain ⟨v5, e5, rfl⟩ := h.cell (j := 5) (by decide)
  exact ⟨e0, e1, e2, e3, e5⟩
end Go.Proofs.YtmifebcaifbmoaaGreatDoor.Dig
end
