/- Parts of the proof of TweakBlocks. Dig2: digest: a state in its block; bytes copied into it. Laws. Dig3: digest: a state is fed. -/
import Derived.Test.YtmifebcaifbmoaaGreatDoorL00
import Derived.Test.YtmifebcaifbmoaaGreatDoorL30
/- Dig2 -/
section
namespace Go.Proofs.YtmifebcaifbmoaaGreatDoor.Dig
open Go.RowKit Go.Lib Go.Proofs.YtmifebcaifbmoaaGreatDoor.Blk

section
variable {P : Program} {ops : Array Oper} {Q2 : Act → Prop} {o : Oper} {rest : List Oper} {a : Act} {w : World}
theorem s_field (hg : Region.wanted o (yielded ops a.tmps) = true) (s : TypeId) (x : Operand) (f : Nat) (ho : o.op = .fieldAddr s x f) (b off : Nat) (hx : a.eval x = .pointer (some ⟨b, off, none⟩))
    {fs : Array Field} {fd : Field} {sz : Nat} (hu : P.underlying s = some (.struct fs)) (hf : fs[f]? = some fd) (hi : (P.info? fd.type).map (·.size) = some sz) (hs : sz ≠ 0) (off2 : Nat) (ho2 : off + fd.offset = off2)
    (h : wpStill P ops w Q2 rest (a.put o.dst (.pointer (some ⟨b, off2, none⟩)))) : wpStill P ops w Q2 (o :: rest) a :=
  Still.s_val hg _ (by
    subst ho2
    unfold execOp; rw [ho]
    simp only [hx, Sem.run_bind, Step.run_field0 s b off f hu hf hi hs, Result.andThen_ok, Sem.run_pure]) h
/-- a part of an array behind a pointer -/
theorem s_sliceAB (hg : Region.wanted o (yielded ops a.tmps) = true) (t e : TypeId) (x y z : Operand) (ho : o.op = .slice t x (some y) (some z) none) (b off : Nat) (hx : a.eval x = .pointer (some ⟨b, off, none⟩)) (lo hi n : Nat) (hy : a.eval y = .int .i64 lo) (hz : a.eval z = .int .i64 hi) (hlt : lo ≤ hi) (hhn : hi ≤ n) (hlo : lo < n)
    (hu : P.underlying t = some (.array n e)) (hi' : (P.info? e).map (·.size) = some 1) (h : wpStill P ops w Q2 rest (a.put o.dst (.slice (some ⟨b, off + lo, none⟩) (hi - lo) (n - lo)))) : wpStill P ops w Q2 (o :: rest) a :=
  Still.s_val hg _ (by
    unfold execOp
    cases hie : P.info? e with
    | none => simp [hie] at hi'
    | some ie =>
      simp only [hie, Option.map_some, Option.some.injEq] at hi'
      have hs : (sizeOf e).run P w = .ok 1 w := by simp [sizeOf, typeInfo, hie, hi']

      have h3 : ¬ n = lo := by omega

      have hr : (Instr.sliceAt t (.pointer (some ⟨b, off, none⟩)) (some (.int .i64 lo)) (some (.int .i64 hi)) none).run P w = .ok (.slice (some ⟨b, off + lo, none⟩) (hi - lo) (n - lo)) w := by
        simp [Instr.sliceAt, go_sem, run_underlying hu, hs, Instr.sliceBounds, Instr.sliceBound, Instr.sureAddr, asIntOf, hlt, hhn, h3, Addr.add_mid]
      simp only [ho, hx, hy, hz, Option.map_some, Option.map_none, Sem.run_bind, hr, Result.andThen_ok, Sem.run_pure]) h
end

/-- bytes at hand, as values -/
theorem BU.list {w : World} {g off n B : Nat} (h : BU w (some ⟨g, off, none⟩) n B) : ∀ k, k ≤ n → ∃ cs : List Value, cs.length = k ∧ (∀ j v, cs[j]? = some v → w.cell? ⟨g, off + j, none⟩ = some v) ∧ ∀ v ∈ cs, ∃ z, v = .int .u8 z
  | 0, _ => ⟨[], rfl, fun j v hv => by simp at hv, fun v hv => by cases hv⟩
  | k + 1, hk => by
    obtain ⟨cs, e1, e2, e3⟩ := h.list k (by omega)
    obtain ⟨_, _, e, _, z, hz⟩ := h k (by omega)
    cases e
    refine ⟨cs ++ [.int .u8 z], by simp [e1], fun j v hj => ?_, fun v hv => ?_⟩
    · by_cases hjk : j < k
      · rw [List.getElem?_append_left (by omega)] at hj
        exact e2 j v hj
      · have hl := (List.getElem?_eq_some_iff.1 hj).1
        simp [e1] at hl
        obtain rfl : j = k := by omega
        rw [List.getElem?_append_right (by omega), e1, Nat.sub_self] at hj
        cases hj
        exact hz
    · rcases List.mem_append.1 hv with hv | hv
      · exact e3 v hv
      · simp at hv
        exact ⟨z, hv⟩
section
variable {P : Program} {a : Act} {w : World} {o : Oper} {K : Act → World → Prop} {Q : Exit → Act → World → Prop}
/-- bytes copied into a block that is told by a property -/
theorem w_copyP (dT sT elem : TypeId) (x y : Operand) (ho : o.op = .call { callee := .builtin .copy, args := #[x, y], argTypes := #[dT, sT] }) (hu : P.underlying dT = some (.slice elem)) (hs : (P.info? elem).map (·.size) = some 1)
    (b off dLen dCap : Nat) (hx : a.eval x = .slice (some ⟨b, off, none⟩) dLen dCap) (g so sLen sCap : Nat) (hy : a.eval y = .slice (some ⟨g, so, none⟩) sLen sCap) {T : TypeId} {n B : Nat} {p : Nat → Value → Prop} (hb : RowP w b T n p) (hbu : BU w (some ⟨g, so, none⟩) sLen B) (hfit : off + min sLen dLen ≤ n) (hp : ∀ j z, j < min sLen dLen → p (off + j) (.int .u8 z))
    (h : ∀ w', RowP w' b T n p → w.grownBy w' (some b) → K (a.put o.dst (.int .i64 (min sLen dLen : Nat))) w') : o.wp P a w K Q := by
  obtain ⟨cs, e1, e2, e3⟩ := hbu.list (min sLen dLen) (Nat.min_le_left _ _)
  have hb2 := hb
  obtain ⟨cur, h1, h2, h3⟩ := hb2
  refine Tw.w_copy dT sT elem x y ho hu hs b off dLen dCap hx ⟨g, so, none⟩ sLen sCap hy cs h1 (by rw [e1]) (fun j v hj => by rw [Addr.add_mid]; exact e2 j v hj) (by omega) (fun v hv => by obtain ⟨z, rfl⟩ := e3 v hv; rfl) ?_
  rw [e1]
  refine h _ ⟨_, setRow_heap w b cur _ T (0, 0) h1, by rw [Tree.patch_size _ _ _ (by omega)]; exact h2, fun j hj => ?_⟩ ⟨rfl, rfl, rfl, by simp, fun x _ hc => setRow_other w b x _ (fun e => hc (by rw [e]))⟩
  by_cases hin : off ≤ j ∧ j < off + cs.length
  · obtain ⟨i, rfl⟩ : ∃ i, j = off + i := ⟨j - off, by omega⟩
    have hi : i < cs.length := by omega
    have hv : cs[i]? = some cs[i] := List.getElem?_eq_getElem hi
    obtain ⟨z, hz⟩ := e3 _ (List.getElem_mem hi)
    exact ⟨_, (Seg.patch_in cur off cs (by omega) i hi).trans hv, by rw [hz]; exact hp i z (by omega)⟩
  · obtain ⟨v, hv, hpv⟩ := h3 j hj
    exact ⟨v, (Seg.patch_out cur off cs (by omega) j (by omega)).trans hv, hpv⟩
end

/-- a state of SHA-256 that has taken c bytes -/
def stP (c : Nat) (j : Nat) (v : Value) : Prop :=
  if j = 0 then v = .int .i64 32 else if j = 1 then v = .int .i64 64 else if j = 2 then v = .int .i64 4
  else if j = 3 then v = .func (.func 193) #[] #[] else if j = 4 then v = .int .i64 256
  else if j = 5 then v = .int .u64 c else if j < 14 then ∃ z, v = .int .u64 z else ∃ z, v = .int .u8 z
theorem stP_word (c k : Nat) (hk : k < 8) (z : Int) : stP c (6 + k) (.int .u64 z) := by
  unfold stP
  rw [if_neg (by omega), if_neg (by omega), if_neg (by omega), if_neg (by omega), if_neg (by omega), if_neg (by omega), if_pos (by omega)]
  exact ⟨z, rfl⟩
theorem stP_word' (c k : Nat) (hk : k < 8) (v : Value) (h : stP c (6 + k) v) : ∃ z, v = .int .u64 z := by
  unfold stP at h
  rwa [if_neg (by omega), if_neg (by omega), if_neg (by omega), if_neg (by omega), if_neg (by omega), if_neg (by omega), if_pos (by omega)] at h
theorem stP_half (c k : Nat) (z : Int) : stP c (14 + k) (.int .u8 z) := by
  unfold stP
  rw [if_neg (by omega), if_neg (by omega), if_neg (by omega), if_neg (by omega), if_neg (by omega), if_neg (by omega), if_neg (by omega)]
  exact ⟨z, rfl⟩
theorem stP_half' (c k : Nat) (v : Value) (h : stP c (14 + k) v) : ∃ z, v = .int .u8 z := by
  unfold stP at h
  rwa [if_neg (by omega), if_neg (by omega), if_neg (by omega), if_neg (by omega), if_neg (by omega), if_neg (by omega), if_neg (by omega)] at h
/-- the count turned -/
theorem RowP.count {w w' : World} {b : Nat} {T : TypeId} {c d : Nat} {cs : Array Value} (h : RowP w b T 142 (stP c)) (hc : w.heap[b]? = some (.cells cs T (0, 0))) (h' : w'.heap[b]? = some (.cells (cs.setIfInBounds 5 (.int .u64 (d : Nat))) T (0, 0))) : RowP w' b T 142 (stP d) := by
  obtain ⟨cs', e1, e2, e3⟩ := h
  rw [hc] at e1
  cases e1
  refine ⟨_, h', by simpa using e2, fun i hi => ?_⟩
  obtain ⟨u, hu, hpu⟩ := e3 i hi
  by_cases hij : 5 = i
  · subst hij
    exact ⟨_, by rw [Array.getElem?_setIfInBounds_self_of_lt (Array.getElem?_eq_some_iff.1 hu).1], rfl⟩
  · refine ⟨u, by rw [Array.getElem?_setIfInBounds_ne hij]; exact hu, ?_⟩
    unfold stP at hpu ⊢
    rwa [if_neg (fun e => hij e.symm : ¬ i = 5)] at hpu ⊢
theorem RowP.half {w : World} {b : Nat} {T : TypeId} {c : Nat} (h : RowP w b T 142 (stP c)) (d n B : Nat) (hd : d + n ≤ 128) (hB : b < B) : BU w (some ⟨b, 14 + d, none⟩) n B := fun i hi => by
  obtain ⟨v, e, hp⟩ := h.cell (j := 14 + d + i) (by omega)
  rw [Nat.add_assoc] at hp
  obtain ⟨z, rfl⟩ := stP_half' c _ v hp
  exact ⟨b, _, rfl, hB, z, e⟩
theorem RowP.at_ {w : World} {b : Nat} {T : TypeId} {c : Nat} (h : RowP w b T 142 (stP c)) : w.cell? ⟨b, 0, none⟩ = some (.int .i64 32) ∧ w.cell? ⟨b, 1, none⟩ = some (.int .i64 64) ∧ w.cell? ⟨b, 2, none⟩ = some (.int .i64 4) ∧ w.cell? ⟨b, 3, none⟩ = some (.func (.func 193) #[] #[]) ∧ w.cell? ⟨b, 5, none⟩ = some (.int .u64 c) := by
  obtain ⟨v0, e0, rfl⟩ := h.cell (j := 0) (by decide)
  obtain ⟨v1, e1, rfl⟩ := h.cell (j := 1) (by decide)
  obtain ⟨v2, e2, rfl⟩ := h.cell (j := 2) (by decide)
  obtain ⟨v3, e3, rfl⟩ := h.cell (j := 3) (by decide)
  obtain ⟨v5, e5, rfl⟩ := h.cell (j := 5) (by decide)
  exact ⟨e0, e1, e2, e3, e5⟩
end Go.Proofs.YtmifebcaifbmoaaGreatDoor.Dig
end

/- Dig3 -/
section
namespace Go.Proofs.YtmifebcaifbmoaaGreatDoor.Dig
open Go.RowKit Go.Lib Go.Proofs.YtmifebcaifbmoaaGreatDoor.Blk

theorem NW.self {hb nh : Nat} {T : TypeId} {p p2 : Nat → Value → Prop} {cg cn g off n : Nat} {w w1 w2 : World} (h : NW hb nh T p cg cn (some ⟨g, off, none⟩) n w w1) (hg : w1.grownBy w2 (some hb)) (hr : RowP w2 hb T nh p2) (hne : g ≠ hb) : NW hb nh T p2 cg cn (some ⟨g, off, none⟩) n w w2 :=
  ⟨hr, fun i hi => by
    obtain ⟨g', off', e, hl, z, hz⟩ := h.bu i hi
    cases e
    exact ⟨g, off, rfl, hl, z, cell_keep hg hne hz⟩, h.cu.keep hg h.ne, gb_trans h.gb hg, h.hl, h.ne⟩
theorem NW.here {hb nh : Nat} {T : TypeId} {p : Nat → Value → Prop} {cg cn : Nat} {q q2 : Option Addr} {n n2 : Nat} {w w1 : World} (h : NW hb nh T p cg cn q n w w1) (hb2 : BU w1 q2 n2 w1.heap.size) : NW hb nh T p cg cn q2 n2 w1 w1 :=
  ⟨h.h, hb2, h.cu, gb_refl _ _, Nat.lt_of_lt_of_le h.hl h.gb.size, h.ne⟩
theorem BU.more {w : World} {q : Option Addr} {n B C : Nat} (h : BU w q n B) (hBC : B ≤ C) : BU w q n C := h.next (fun _ _ _ _ hz => hz) hBC
set_option maxRecDepth 100000 in
set_option maxHeartbeats 8000000 in
theorem take_any (sb : Nat) (T : TypeId) (c n cap : Nat) (hc : c + n < 2 ^ 62) (g off : Nat) (hn : n ≤ cap) (hcap : cap ≤ 9223372036854775807) (hg : g ≠ sb) (w : World) (hN : NW sb 142 T (stP c) 7 80 (some ⟨g, off, none⟩) n w w) (hcg : 7 < w.heap.size) :
    Calls Tryz.prog 184 #[.pointer (some ⟨sb, 0, none⟩), .slice (some ⟨g, off, none⟩) n cap] w fun e w' => e = .returned (.tuple #[]) ∧ RowP w' sb T 142 (stP (c + n)) ∧ w.grownBy w' (some sb) := by
  have HN := Lib.hid hN
  have NR := Lib.hid (fun w1 q m k (h : NW sb 142 T (stP (c + n)) 7 80 q m w1 w1) (h1 : m ≤ k) (h2 : k ≤ 9223372036854775807) (h3 : 7 < w1.heap.size) => narrow_any sb 6 142 T (stP (c + n)) (by decide) (fun k hk z => stP_word _ k hk z) (fun k hk v hv => stP_word' _ k hk v hv) q m k h1 h2 w1 h h3)
  clear hN
  obtain ⟨_, a1, _, a3, a5⟩ := HN.out.h.at_
  have A1 := Lib.hid a1
  have A5 := Lib.hid a5
  clear a1 a3 a5
  go_enter Tryz.func184, Tryz.ntmps184
  go_upto_region 0 with fail
  refine wp_region_still_tail 12 (by kernel_rfl) (by kernel_rfl) ?_
  refine Still.s_move rfl _ rfl (.pointer (some ⟨sb, 0, none⟩)) rfl ?_
  simp only [Act.put, sA9, sB9, sC9]
  refine Still.s_val rfl (.pointer (some ⟨sb, 0, none⟩)) (by unfold execOp; go_simp; try rfl) ?_
  simp only [Act.put, sA9, sB9, sC9]
  refine s_field rfl _ _ _ rfl sb 0 rfl Tryz.underlying230 rfl (sz := 1) (by kernel_rfl) (by decide) 5 rfl ?_
  simp only [Act.put, sA9, sB9, sC9]
  refine Still.s_load1 rfl _ _ rfl (sb) (5) rfl (.int .u64 c) (A5.out) Tryz.underlying25 rfl ?_
  simp only [Act.put, sA9, sB9, sC9]
  refine Still.s_move rfl _ rfl (.pointer (some ⟨sb, 0, none⟩)) rfl ?_
  simp only [Act.put, sA9, sB9, sC9]
  refine Still.s_val rfl (.pointer (some ⟨sb, 0, none⟩)) (by unfold execOp; go_simp; try rfl) ?_
  simp only [Act.put, sA9, sB9, sC9]
  refine s_field rfl _ _ _ rfl sb 0 rfl Tryz.underlying230 rfl (sz := 4) (by kernel_rfl) (by decide) 0 rfl ?_
  simp only [Act.put, sA9, sB9, sC9]
  refine s_field rfl _ _ _ rfl sb 0 rfl Tryz.underlying227 rfl (sz := 1) (by kernel_rfl) (by decide) 1 rfl ?_
  simp only [Act.put, sA9, sB9, sC9]
  refine Still.s_load1 rfl _ _ rfl (sb) (1) rfl (.int .i64 64) (A1.out) Tryz.underlying3 rfl ?_
  simp only [Act.put, sA9, sB9, sC9]
  refine Still.s_val rfl (.int .u64 64) (by unfold execOp; go_simp; try rfl) ?_
  simp only [Act.put, sA9, sB9, sC9]
  refine Still.s_val rfl (.int .u64 (c % 64 : Nat)) (by unfold execOp; go_simp; try (first | rfl | omega | exact (IntWalk.u64_in _ (by omega)).trans (by omega))) ?_
  simp only [Act.put, sA9, sB9, sC9]
  refine Still.s_val rfl (.int .i64 (c % 64 : Nat)) (by unfold execOp; go_simp; try (first | rfl | omega | exact (IntWalk.i64_in _ (by omega)).trans (by omega))) ?_
  simp only [Act.put, sA9, sB9, sC9]
  refine wpStill_nil ?_
  simp only [List.drop]
  change wpList _ _ _ _ _ w.drew
  refine Step.p_assign rfl _ rfl (.int .i64 (c % 64 : Nat)) rfl ?_
  simp only [Act.put, sA9, sB9, sC9]
  refine wpList_nil ?_
  go_upto_region 1 with fail
  refine wp_region_lit ?_
  refine Step.p_move rfl _ rfl (.pointer (some ⟨sb, 0, none⟩)) rfl ?_
  simp only [Act.put, sA9, sB9, sC9]
  refine Step.p_val rfl (.pointer (some ⟨sb, 0, none⟩)) (by unfold execOp; go_simp; try rfl) ?_
  simp only [Act.put, sA9, sB9, sC9]
  refine Tree.p_field rfl _ _ _ rfl sb (0) rfl Tryz.underlying230 rfl (sz := 1) (by kernel_rfl) (by decide) (5) rfl ?_
  simp only [Act.put, sA9, sB9, sC9]
  refine Tree.p_load1 rfl _ _ rfl (sb) (5) rfl (.int .u64 c) (A5.out) Tryz.underlying25 rfl ?_
  simp only [Act.put, sA9, sB9, sC9]
  refine Step.p_move rfl _ rfl (.slice (some ⟨g, off, none⟩) n cap) rfl ?_
  simp only [Act.put, sA9, sB9, sC9]
  refine Step.p_len rfl _ _ 5 rfl (_) (n) (cap) rfl Tryz.underlying22 ?_
  simp only [Act.put, sA9, sB9, sC9]
  refine Step.p_val rfl (.int .u64 n) (by unfold execOp; go_simp; try (first | rfl | omega | exact (IntWalk.u64_in _ (by omega)).trans (by omega))) ?_
  simp only [Act.put, sA9, sB9, sC9]
  refine Step.p_val rfl (.int .u64 (c + n : Nat)) (by unfold execOp; go_simp; try (first | rfl | omega | exact (IntWalk.u64_in _ (by omega)).trans (by omega))) ?_
  simp only [Act.put, sA9, sB9, sC9]
  refine Step.p_val rfl (.pointer (some ⟨sb, 0, none⟩)) (by unfold execOp; go_simp; try rfl) ?_
  simp only [Act.put, sA9, sB9, sC9]
  refine Tree.p_field rfl _ _ _ rfl sb (0) rfl Tryz.underlying230 rfl (sz := 1) (by kernel_rfl) (by decide) (5) rfl ?_
  simp only [Act.put, sA9, sB9, sC9]
  obtain ⟨cs, hcs, hcs2, _⟩ := HN.out.h
  have HCS := Lib.hid hcs
  clear hcs
  have hi64 : (Tryz.prog.info? 25).map (·.size) = some 1 := by kernel_rfl
  refine Step.p_storeV rfl 25 _ _ rfl sb 5 rfl (.int .u64 (c + n : Nat)) rfl (fun _ e => by cases e) rfl hi64 (show w.drew.heap[sb]? = _ from HCS.out) (by omega) ?_
  intro w1 hr hgr _
  simp only [Act.put]
  refine wpList_nil ?_
  have E1 := Lib.hid (HN.out.self (⟨hgr.os, hgr.tape, hgr.output, hgr.size, hgr.block⟩ : w.grownBy w1 (some sb)) (RowP.count HN.out.h HCS.out hr) hg)
  clear hr hgr HCS A1 A5 HN
  have hl1 : 7 < w1.heap.size := Nat.lt_of_lt_of_le hcg E1.out.gb.size
  obtain ⟨_, a1, _, a3, _⟩ := E1.out.h.at_
  have A1 := Lib.hid a1
  have A3 := Lib.hid a3
  clear a1 a3
  have hat2 : c % 64 < 64 := Nat.mod_lt _ (by decide)
  generalize c % 64 = at_ at *
  go_upto_if 30 with fail
  go_cut [1] from 31 to 72 (fun b wx => ∃ (d k m : Nat), b = .slice (some ⟨g, d, none⟩) m k ∧ m ≤ k ∧ k ≤ 9223372036854775807 ∧ NW sb 142 T (stP (c + n)) 7 80 (some ⟨g, d, none⟩) m w wx)
  case first =>
    by_cases hat : 0 < at_
    · skip
      go_upto_region 3 with fail
      refine wp_region_still_tail 11 (by kernel_rfl) (by kernel_rfl) ?_
      refine Still.s_move rfl _ rfl (.pointer (some ⟨sb, 0, none⟩)) rfl ?_
      simp only [Act.put, sA9, sB9, sC9]
      refine Still.s_val rfl (.pointer (some ⟨sb, 0, none⟩)) (by unfold execOp; go_simp; try rfl) ?_
      simp only [Act.put, sA9, sB9, sC9]
      refine s_field rfl _ _ _ rfl sb 0 rfl Tryz.underlying230 rfl (sz := 128) (by kernel_rfl) (by decide) 14 rfl ?_
      simp only [Act.put, sA9, sB9, sC9]
      refine Still.s_move rfl _ rfl (.int .i64 at_) rfl ?_
      simp only [Act.put, sA9, sB9, sC9]
      refine Still.s_move rfl _ rfl (.pointer (some ⟨sb, 0, none⟩)) rfl ?_
      simp only [Act.put, sA9, sB9, sC9]
      refine Still.s_val rfl (.pointer (some ⟨sb, 0, none⟩)) (by unfold execOp; go_simp; try rfl) ?_
      simp only [Act.put, sA9, sB9, sC9]
      refine s_field rfl _ _ _ rfl sb 0 rfl Tryz.underlying230 rfl (sz := 4) (by kernel_rfl) (by decide) 0 rfl ?_
      simp only [Act.put, sA9, sB9, sC9]
      refine s_field rfl _ _ _ rfl sb 0 rfl Tryz.underlying227 rfl (sz := 1) (by kernel_rfl) (by decide) 1 rfl ?_
      simp only [Act.put, sA9, sB9, sC9]
      refine Still.s_load1 rfl _ _ rfl (sb) (1) rfl (.int .i64 64) (A1.out) Tryz.underlying3 rfl ?_
      simp only [Act.put, sA9, sB9, sC9]
      refine s_sliceAB rfl _ 5 _ _ _ rfl sb 14 rfl at_ 64 128 rfl rfl (by omega) (by decide) (by omega) Tryz.underlying228 (by kernel_rfl) ?_
      simp only [Act.put, sA9, sB9, sC9]
      refine Still.s_move rfl _ rfl (.slice (some ⟨g, off, none⟩) n cap) rfl ?_
      simp only [Act.put, sA9, sB9, sC9]
      refine wpStill_nil ?_
      simp only [List.drop]
      change wpList _ _ _ _ _ w1.drew
      refine Step.p_wp rfl (w_copyP _ _ 5 _ _ rfl Tryz.underlying22 (by kernel_rfl) sb (14 + at_) (64 - at_) (128 - at_) rfl g off n cap rfl (show RowP w1.drew sb T 142 (stP (c + n)) from E1.out.h) E1.out.bu (by omega) (fun j z _ => by rw [Nat.add_assoc]; exact stP_half _ _ z) ?_)
      intro w2 hr2 hg2
      simp only [Act.put, sA9, sB9, sC9]
      have E2 := Lib.hid (E1.out.self (⟨hg2.os, hg2.tape, hg2.output, hg2.size, hg2.block⟩ : w1.grownBy w2 (some sb)) hr2 hg)
      clear hr2 hg2 E1 A1 A3
      obtain ⟨n1, hn1⟩ : ∃ n1, min n (64 - at_) = n1 := ⟨_, rfl⟩
      rw [hn1]
      have hq1 : n1 ≤ n ∧ n1 ≤ 64 - at_ ∧ (n1 = n ∨ n1 = 64 - at_) := by omega
      clear hn1
      refine Step.p_assign rfl _ rfl (.int .i64 n1) rfl ?_
      simp only [Act.put, sA9, sB9, sC9]
      refine wpList_nil ?_
      obtain ⟨d, hd, hE⟩ : ∃ d, (if cap = n1 then (some ⟨g, off, none⟩ : Option Addr) else some ⟨g, off + n1, none⟩) = some ⟨g, d, none⟩ ∧ NW sb 142 T (stP (c + n)) 7 80 (some ⟨g, d, none⟩) (n - n1) w w2 := by
        by_cases hcn : cap = n1
        · exact ⟨off, by rw [if_pos hcn], by rw [show n - n1 = 0 by omega]; exact E2.out.none_ _⟩
        · exact ⟨off + n1, by rw [if_neg hcn], E2.out.cut n1 (n - n1) (by omega)⟩
      have HD := Lib.hid hd
      have E3 := Lib.hid hE
      clear hd hE E2
      obtain ⟨_, a1, _, a3, _⟩ := E3.out.h.at_
      have A1 := Lib.hid a1
      have A3 := Lib.hid a3
      clear a1 a3
      go_upto_region 4 with fail
      refine wp_region_lit ?_
      refine Step.p_move rfl _ rfl (.slice (some ⟨g, off, none⟩) n cap) rfl ?_
      simp only [Act.put, sA9, sB9, sC9]
      refine Step.p_move rfl _ rfl (.int .i64 n1) rfl ?_
      simp only [Act.put, sA9, sB9, sC9]
      refine Step.p_val rfl (.slice (some ⟨g, d, none⟩) (n - n1) (cap - n1)) (by unfold execOp; go_simp; first | rw [HD.out] | rw [if_pos ⟨by omega, by omega⟩, HD.out]) ?_
      simp only [Act.put, sA9, sB9, sC9]
      refine Step.p_assign rfl _ rfl (.slice (some ⟨g, d, none⟩) (n - n1) (cap - n1)) rfl ?_
      simp only [Act.put, sA9, sB9, sC9]
      refine wpList_nil ?_
      go_upto_region 5 with fail
      refine wp_region_lit ?_
      refine Step.p_move rfl _ rfl (.int .i64 at_) rfl ?_
      simp only [Act.put, sA9, sB9, sC9]
      refine Step.p_move rfl _ rfl (.int .i64 n1) rfl ?_
      simp only [Act.put, sA9, sB9, sC9]
      refine Step.p_val rfl (.int .i64 (at_ + n1 : Nat)) (by unfold execOp; go_simp; try (first | rfl | omega | exact (IntWalk.i64_in _ (by omega)).trans (by omega))) ?_
      simp only [Act.put, sA9, sB9, sC9]
      refine Step.p_move rfl _ rfl (.pointer (some ⟨sb, 0, none⟩)) rfl ?_
      simp only [Act.put, sA9, sB9, sC9]
      refine Step.p_val rfl (.pointer (some ⟨sb, 0, none⟩)) (by unfold execOp; go_simp; try rfl) ?_
      simp only [Act.put, sA9, sB9, sC9]
      refine Tree.p_field rfl _ _ _ rfl sb (0) rfl Tryz.underlying230 rfl (sz := 4) (by kernel_rfl) (by decide) (0) rfl ?_
      simp only [Act.put, sA9, sB9, sC9]
      refine Tree.p_field rfl _ _ _ rfl sb (0) rfl Tryz.underlying227 rfl (sz := 1) (by kernel_rfl) (by decide) (1) rfl ?_
      simp only [Act.put, sA9, sB9, sC9]
      refine Tree.p_load1 rfl _ _ rfl (sb) (1) rfl (.int .i64 64) (A1.out) Tryz.underlying3 rfl ?_
      simp only [Act.put, sA9, sB9, sC9]
      refine Step.p_val rfl (.bool (decide (at_ + n1 < 64))) (by unfold execOp; go_simp; try (first | rfl | omega | (by_cases h : at_ + n1 < 64 <;> simp [h] <;> omega))) ?_
      simp only [Act.put, sA9, sB9, sC9]
      refine wpList_nil ?_
      by_cases hsh : at_ + n1 < 64
      · go_wp2
        refine bodyPost_ret (results_none rfl _ _ _) rfl ?_
        exact ⟨rfl, E3.out.h, E3.out.gb⟩
      · skip
        go_upto_region 6 with fail
        refine wp_region_still_tail 17 (by kernel_rfl) (by kernel_rfl) ?_
        refine Still.s_move rfl _ rfl (.pointer (some ⟨sb, 0, none⟩)) rfl ?_
        simp only [Act.put, sA9, sB9, sC9]
        refine Still.s_val rfl (.pointer (some ⟨sb, 0, none⟩)) (by unfold execOp; go_simp; try rfl) ?_
        simp only [Act.put, sA9, sB9, sC9]
        refine s_field rfl _ _ _ rfl sb 0 rfl Tryz.underlying230 rfl (sz := 4) (by kernel_rfl) (by decide) 0 rfl ?_
        simp only [Act.put, sA9, sB9, sC9]
        refine s_field rfl _ _ _ rfl sb 0 rfl Tryz.underlying227 rfl (sz := 1) (by kernel_rfl) (by decide) 3 rfl ?_
        simp only [Act.put, sA9, sB9, sC9]
        refine Still.s_load1 rfl _ _ rfl (sb) (3) rfl (.func (.func 193) #[] #[]) (A3.out) Tryz.underlying225 rfl ?_
        simp only [Act.put, sA9, sB9, sC9]
        refine Still.s_move rfl _ rfl (.pointer (some ⟨sb, 0, none⟩)) rfl ?_
        simp only [Act.put, sA9, sB9, sC9]
        refine Still.s_val rfl (.pointer (some ⟨sb, 0, none⟩)) (by unfold execOp; go_simp; try rfl) ?_
        simp only [Act.put, sA9, sB9, sC9]
        refine s_field rfl _ _ _ rfl sb 0 rfl Tryz.underlying230 rfl (sz := 8) (by kernel_rfl) (by decide) 6 rfl ?_
        simp only [Act.put, sA9, sB9, sC9]
        refine Still.s_move rfl _ rfl (.pointer (some ⟨sb, 0, none⟩)) rfl ?_
        simp only [Act.put, sA9, sB9, sC9]
        refine Still.s_val rfl (.pointer (some ⟨sb, 0, none⟩)) (by unfold execOp; go_simp; try rfl) ?_
        simp only [Act.put, sA9, sB9, sC9]
        refine s_field rfl _ _ _ rfl sb 0 rfl Tryz.underlying230 rfl (sz := 128) (by kernel_rfl) (by decide) 14 rfl ?_
        simp only [Act.put, sA9, sB9, sC9]
        refine Still.s_move rfl _ rfl (.pointer (some ⟨sb, 0, none⟩)) rfl ?_
        simp only [Act.put, sA9, sB9, sC9]
        refine Still.s_val rfl (.pointer (some ⟨sb, 0, none⟩)) (by unfold execOp; go_simp; try rfl) ?_
        simp only [Act.put, sA9, sB9, sC9]
        refine s_field rfl _ _ _ rfl sb 0 rfl Tryz.underlying230 rfl (sz := 4) (by kernel_rfl) (by decide) 0 rfl ?_
        simp only [Act.put, sA9, sB9, sC9]
        refine s_field rfl _ _ _ rfl sb 0 rfl Tryz.underlying227 rfl (sz := 1) (by kernel_rfl) (by decide) 1 rfl ?_
        simp only [Act.put, sA9, sB9, sC9]
        refine Still.s_load1 rfl _ _ rfl (sb) (1) rfl (.int .i64 64) (A1.out) Tryz.underlying3 rfl ?_
        simp only [Act.put, sA9, sB9, sC9]
        refine Still.s_val rfl (.slice (some ⟨sb, 14, none⟩) 64 128) (by unfold execOp; go_simp; try rfl) ?_
        simp only [Act.put, sA9, sB9, sC9]
        refine wpStill_nil ?_
        simp only [List.drop]
        change wpList _ _ _ _ _ w2.drew
        refine Step.p_wp rfl (Step.w_callv _ _ _ rfl 193 [] rfl Tryz.func193 (by kernel_rfl) rfl [.pointer (some ⟨sb, 6, none⟩), .slice (some ⟨sb, 14, none⟩) 64 128] rfl (NR.out w2.drew _ (64) (128) (E3.out.drew.here ((E3.out.h.half 0 64 _ (by decide) (E3.out.h.lt)))) (by omega) (by omega) (Nat.lt_of_lt_of_le hcg E3.out.gb.size)) ?_)
        rintro e w3 ⟨rfl, hnw⟩
        refine ⟨_, rfl, ?_⟩
        simp only [Act.put, sA9, sB9, sC9]
        refine wpList_nil ?_
        have E4 := Lib.hid (E3.out.drew.self hnw.gb hnw.h hg)
        clear hnw E3
        go_wp2
        go_meet
        case rel => exact ⟨d, cap - n1, n - n1, rfl, by omega, by omega, E4.out⟩
    · go_wp2
      go_meet
      case rel => exact ⟨off, cap, n, rfl, hn, hcap, E1.out⟩
  obtain ⟨d, k, m, rfl, hmk, hk, he⟩ := hcut
  have E5 := Lib.hid he
  clear he E1 A1 A3
  obtain ⟨_, a1, _, a3, _⟩ := E5.out.h.at_
  have A1 := Lib.hid a1
  have A3 := Lib.hid a3
  clear a1 a3
  obtain ⟨h, hh⟩ : ∃ h, m / 64 = h := ⟨_, rfl⟩
  have HH : Hid ((m : Int).tdiv 64 = (h : Nat)) := Lib.hid (by rw [← hh]; rfl)
  have hhm : 64 * h ≤ m ∧ m < 64 * h + 64 := by omega
  clear hh
  go_upto_region 7 with fail
  refine wp_region_still_tail 14 (by kernel_rfl) (by kernel_rfl) ?_
  refine Still.s_move rfl _ rfl (.slice (some ⟨g, d, none⟩) m k) rfl ?_
  simp only [Act.put, sA9, sB9, sC9]
  refine Still.s_val rfl (.int .i64 m) (by unfold execOp; go_simp) ?_
  simp only [Act.put, sA9, sB9, sC9]
  refine Still.s_move rfl _ rfl (.pointer (some ⟨sb, 0, none⟩)) rfl ?_
  simp only [Act.put, sA9, sB9, sC9]
  refine Still.s_val rfl (.pointer (some ⟨sb, 0, none⟩)) (by unfold execOp; go_simp; try rfl) ?_
  simp only [Act.put, sA9, sB9, sC9]
  refine s_field rfl _ _ _ rfl sb 0 rfl Tryz.underlying230 rfl (sz := 4) (by kernel_rfl) (by decide) 0 rfl ?_
  simp only [Act.put, sA9, sB9, sC9]
  refine s_field rfl _ _ _ rfl sb 0 rfl Tryz.underlying227 rfl (sz := 1) (by kernel_rfl) (by decide) 1 rfl ?_
  simp only [Act.put, sA9, sB9, sC9]
  refine Still.s_load1 rfl _ _ rfl (sb) (1) rfl (.int .i64 64) (A1.out) Tryz.underlying3 rfl ?_
  simp only [Act.put, sA9, sB9, sC9]
  refine Still.s_val rfl (.int .i64 h) (by unfold execOp; have := HH.out; go_simp; try (first | exact IntWalk.i64_in _ (by omega) | omega | exact (congrArg _ HH.out).trans (IntWalk.i64_in _ (by omega)) | (rw [HH.out]; exact IntWalk.i64_in _ (by omega)))) ?_
  simp only [Act.put, sA9, sB9, sC9]
  refine Still.s_move rfl _ rfl (.pointer (some ⟨sb, 0, none⟩)) rfl ?_
  simp only [Act.put, sA9, sB9, sC9]
  refine Still.s_val rfl (.pointer (some ⟨sb, 0, none⟩)) (by unfold execOp; go_simp; try rfl) ?_
  simp only [Act.put, sA9, sB9, sC9]
  refine s_field rfl _ _ _ rfl sb 0 rfl Tryz.underlying230 rfl (sz := 4) (by kernel_rfl) (by decide) 0 rfl ?_
  simp only [Act.put, sA9, sB9, sC9]
  refine s_field rfl _ _ _ rfl sb 0 rfl Tryz.underlying227 rfl (sz := 1) (by kernel_rfl) (by decide) 1 rfl ?_
  simp only [Act.put, sA9, sB9, sC9]
  refine Still.s_load1 rfl _ _ rfl (sb) (1) rfl (.int .i64 64) (A1.out) Tryz.underlying3 rfl ?_
  simp only [Act.put, sA9, sB9, sC9]
  refine Still.s_val rfl (.int .i64 (64 * h : Nat)) (by unfold execOp; go_simp; try (first | rfl | omega | exact (IntWalk.i64_in _ (by omega)).trans (by omega))) ?_
  simp only [Act.put, sA9, sB9, sC9]
  refine wpStill_nil ?_
  simp only [List.drop]
  change wpList _ _ _ _ _ wc.drew
  refine Step.p_assign rfl _ rfl (.int .i64 (64 * h : Nat)) rfl ?_
  simp only [Act.put, sA9, sB9, sC9]
  refine wpList_nil ?_
  have E6 := Lib.hid E5.out.drew
  clear E5
  generalize wc.drew = w5 at *
  clear A1 A3
  obtain ⟨_, a1, _, a3, _⟩ := E6.out.h.at_
  have A1 := Lib.hid a1
  have A3 := Lib.hid a3
  clear a1 a3
  go_upto_region 8 with fail
  refine wp_region_still_tail 11 (by kernel_rfl) (by kernel_rfl) ?_
  refine Still.s_move rfl _ rfl (.pointer (some ⟨sb, 0, none⟩)) rfl ?_
  simp only [Act.put, sA9, sB9, sC9]
  refine Still.s_val rfl (.pointer (some ⟨sb, 0, none⟩)) (by unfold execOp; go_simp; try rfl) ?_
  simp only [Act.put, sA9, sB9, sC9]
  refine s_field rfl _ _ _ rfl sb 0 rfl Tryz.underlying230 rfl (sz := 4) (by kernel_rfl) (by decide) 0 rfl ?_
  simp only [Act.put, sA9, sB9, sC9]
  refine s_field rfl _ _ _ rfl sb 0 rfl Tryz.underlying227 rfl (sz := 1) (by kernel_rfl) (by decide) 3 rfl ?_
  simp only [Act.put, sA9, sB9, sC9]
  refine Still.s_load1 rfl _ _ rfl (sb) (3) rfl (.func (.func 193) #[] #[]) (A3.out) Tryz.underlying225 rfl ?_
  simp only [Act.put, sA9, sB9, sC9]
  refine Still.s_move rfl _ rfl (.pointer (some ⟨sb, 0, none⟩)) rfl ?_
  simp only [Act.put, sA9, sB9, sC9]
  refine Still.s_val rfl (.pointer (some ⟨sb, 0, none⟩)) (by unfold execOp; go_simp; try rfl) ?_
  simp only [Act.put, sA9, sB9, sC9]
  refine s_field rfl _ _ _ rfl sb 0 rfl Tryz.underlying230 rfl (sz := 8) (by kernel_rfl) (by decide) 6 rfl ?_
  simp only [Act.put, sA9, sB9, sC9]
  refine Still.s_move rfl _ rfl (.slice (some ⟨g, d, none⟩) m k) rfl ?_
  simp only [Act.put, sA9, sB9, sC9]
  refine Still.s_move rfl _ rfl (.int .i64 (64 * h : Nat)) rfl ?_
  simp only [Act.put, sA9, sB9, sC9]
  refine Still.s_val rfl (.slice (some ⟨g, d, none⟩) (64 * h) k) (by unfold execOp; go_simp; rw [if_pos ⟨by omega, by omega⟩, show (64 * (h : Int)).toNat = 64 * h by omega]) ?_
  simp only [Act.put, sA9, sB9, sC9]
  refine wpStill_nil ?_
  simp only [List.drop]
  change wpList _ _ _ _ _ w5.drew
  refine Step.p_wp rfl (Step.w_callv _ _ _ rfl 193 [] rfl Tryz.func193 (by kernel_rfl) rfl [.pointer (some ⟨sb, 6, none⟩), .slice (some ⟨g, d, none⟩) (64 * h) k] rfl (NR.out w5.drew _ (64 * h) (k) (E6.out.drew.here ((fun i hi => by obtain ⟨g', o', e, hl, z, hz⟩ := E6.out.bu i (by omega); exact ⟨g', o', e, Nat.lt_of_lt_of_le hl E6.out.gb.size, z, hz⟩))) (by omega) (by omega) (Nat.lt_of_lt_of_le hcg E6.out.gb.size)) ?_)
  rintro e w6 ⟨rfl, hnw⟩
  refine ⟨_, rfl, ?_⟩
  simp only [Act.put, sA9, sB9, sC9]
  refine wpList_nil ?_
  have E7 := Lib.hid (E6.out.drew.self hnw.gb hnw.h hg)
  clear hnw E6
  obtain ⟨d2, hd, hE⟩ : ∃ d2, (if k = 64 * h then (some ⟨g, d, none⟩ : Option Addr) else some ⟨g, d + 64 * h, none⟩) = some ⟨g, d2, none⟩ ∧ NW sb 142 T (stP (c + n)) 7 80 (some ⟨g, d2, none⟩) (m - 64 * h) w w6 := by
    by_cases hcn : k = 64 * h
    · exact ⟨d, by rw [if_pos hcn], by rw [show m - 64 * h = 0 by omega]; exact E7.out.none_ _⟩
    · exact ⟨d + 64 * h, by rw [if_neg hcn], E7.out.cut (64 * h) (m - 64 * h) (by omega)⟩
  have HD := Lib.hid hd
  have E8 := Lib.hid hE
  clear hd hE E7 A1 A3
  go_upto_region 9 with fail
  refine wp_region_still_tail 7 (by kernel_rfl) (by kernel_rfl) ?_
  refine Still.s_move rfl _ rfl (.pointer (some ⟨sb, 0, none⟩)) rfl ?_
  simp only [Act.put, sA9, sB9, sC9]
  refine Still.s_val rfl (.pointer (some ⟨sb, 0, none⟩)) (by unfold execOp; go_simp; try rfl) ?_
  simp only [Act.put, sA9, sB9, sC9]
  refine s_field rfl _ _ _ rfl sb 0 rfl Tryz.underlying230 rfl (sz := 128) (by kernel_rfl) (by decide) 14 rfl ?_
  simp only [Act.put, sA9, sB9, sC9]
  refine Still.s_val rfl (.slice (some ⟨sb, 14, none⟩) 128 128) (by unfold execOp; go_simp; try rfl) ?_
  simp only [Act.put, sA9, sB9, sC9]
  refine Still.s_move rfl _ rfl (.slice (some ⟨g, d, none⟩) m k) rfl ?_
  simp only [Act.put, sA9, sB9, sC9]
  refine Still.s_move rfl _ rfl (.int .i64 (64 * h : Nat)) rfl ?_
  simp only [Act.put, sA9, sB9, sC9]
  refine Still.s_val rfl (.slice (some ⟨g, d2, none⟩) (m - 64 * h) (k - 64 * h)) (by unfold execOp; go_simp; rw [if_pos ⟨by omega, by omega⟩, show (64 * (h : Int)).toNat = 64 * h by omega, HD.out]) ?_
  simp only [Act.put, sA9, sB9, sC9]
  refine wpStill_nil ?_
  simp only [List.drop]
  change wpList _ _ _ _ _ w6.drew
  refine Step.p_wp rfl (w_copyP _ _ 5 _ _ rfl Tryz.underlying22 (by kernel_rfl) sb 14 128 128 rfl g d2 (m - 64 * h) (k - 64 * h) rfl (show RowP w6.drew sb T 142 (stP (c + n)) from E8.out.h) E8.out.bu (by omega) (fun j z _ => stP_half _ _ z) ?_)
  intro w7 hr7 hg7
  simp only [Act.put, sA9, sB9, sC9]
  refine wpList_nil ?_
  have E9 := Lib.hid (E8.out.self (⟨hg7.os, hg7.tape, hg7.output, hg7.size, hg7.block⟩ : w6.grownBy w7 (some sb)) hr7 hg)
  clear hr7 hg7 E8
  go_wp2
  go_end0
  exact ⟨rfl, E9.out.h, E9.out.gb⟩
end Go.Proofs.YtmifebcaifbmoaaGreatDoor.Dig
end
