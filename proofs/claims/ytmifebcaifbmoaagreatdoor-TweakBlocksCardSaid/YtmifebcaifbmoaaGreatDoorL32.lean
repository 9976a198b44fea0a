/- Parts of the proof of TweakBlocks. Dig4: digest: kindOf, first. Dig5: digest: begin, New, total, Write. -/
import Derived.Test.YtmifebcaifbmoaaGreatDoorL00
import Derived.Test.YtmifebcaifbmoaaGreatDoorL31
import Derived.Test.YtmifebcaifbmoaaGreatDoorL12
import Derived.Test.YtmifebcaifbmoaaGreatDoorL25
import Derived.Test.YtmifebcaifbmoaaGreatDoorL28
/- Dig4 -/
section
namespace Go.Proofs.YtmifebcaifbmoaaGreatDoor.Dig
open Go.RowKit Go.Lib Go.Proofs.YtmifebcaifbmoaaGreatDoor.Blk

section
variable {P : Program} {Q : Exit → Act → World → Prop} {S : World → Prop} {a : Act} {w : World} {fuel : Nat} {listed : Array Bool} {i : Nat} {o : Oper} {tl l : List Oper}
theorem t_loadrow (hi : l.drop i = o :: tl) (hg : Region.wanted o (yielded l.toArray a.tmps) = true) (hs : Region.noSelect l.toArray = true) (hf : Region.free .any l.toArray listed i = true) (hr : (Region.ready .any l.toArray listed).contains i = true) (hS : S w) (ty : TypeId) (x : Operand) (ho : o.op = .load ty x) (b : Nat) (hx : a.eval x = .pointer (some ⟨b, 0, none⟩))
    {t : TypeId} {cs : Array Value} {d : TypeDesc} (hA : ∀ w, S w → w.heap[b]? = some (.cells cs t (0, 0))) (hu : P.underlying ty = some d) (hd : (match d with | .struct _ | .array _ _ => true | _ => false) = true)
    (hi' : (P.info? ty).map (·.size) = some cs.size) (h : wpAnyH P .any l.toArray (NoPanic Q) S fuel (listed.setIfInBounds i true) (a.put o.dst (.agg cs)) w) : wpAnyH P .any l.toArray (NoPanic Q) S (fuel + 1) listed a w :=
  Step.t_val hi hg hs hf hr hS _ (fun w hw => by
    unfold execOp
    simp only [ho, hx, Instr.loadAt, Instr.sureAddr, Sem.run_bind, Sem.run_pure, Result.andThen_ok, run_loadVar_row w b t ty _ _ d (hA w hw) hu hd hi']) h
end
section
variable {P : Program} {Q : Exit → Act → World → Prop} {a : Act} {w : World} {o : Oper} {K : Act → World → Prop}
/-- a whole row is stored -/
theorem w_storerow (_hgd : o.guard = none) (t : TypeId) (x y : Operand) (ho : o.op = .store t x y) (b : Nat) (hx : a.eval x = .pointer (some ⟨b, 0, none⟩)) (cs : Array Value) (hy : a.eval y = .agg cs) (hi : (P.info? t).map (·.size) = some cs.size) (h1 : ∀ v ∈ cs.toList, v.oneCell' = true) {T : TypeId} {cur : Array Value} (hb : w.heap[b]? = some (.cells cur T (0, 0))) (hol : cs.size = cur.size)
    (h : ∀ w', w'.heap[b]? = some (.cells cs T (0, 0)) → w.grownBy w' (some b) → K (a.put o.dst undef) w') : o.wp P a w K Q := by
  refine wp_store_row t x y ho b cs hx hy T cur hb hi hol.symm (Array.all_eq_true_iff_forall_mem.2 fun v hv => h1 v (by simpa using hv)) ?_
  exact h _ (setRow_heap w b cur cs T (0, 0) hb) ⟨rfl, rfl, rfl, by simp, fun x _ hc => setRow_other w b x _ (fun e => hc (by rw [e]))⟩
end
set_option maxRecDepth 100000 in
set_option maxHeartbeats 4000000 in
theorem kindOf_any (w : World) : Calls Tryz.prog 190 #[.int .i64 256] w fun e w' => e = .returned (.tuple #[.agg #[.int .i64 32, .int .i64 64, .int .i64 4, .func (.func 193) #[] #[]], .bool true]) ∧ Below w.heap.size w w' := by
  have hsz : (Tryz.prog.info? 227).map (·.size) = some 4 := by kernel_rfl
  go_enter Tryz.func190, Tryz.ntmps190
  go_upto_region 4 with fail
  refine wp_region_lit ?_
  refine Step.p_move rfl _ rfl (.int .i64 256) rfl ?_
  simp only [Act.put, sA9, sB9, sC9]
  refine Step.p_val rfl (.int .i64 32) (by unfold execOp; go_simp; try rfl) ?_
  simp only [Act.put, sA9, sB9, sC9]
  refine Step.p_val rfl (.agg #[.int .i64 32, .int .i64 64, .int .i64 4, .func (.func 193) #[] #[]]) (by unfold execOp; go_simp; try rfl) ?_
  simp only [Act.put, sA9, sB9, sC9]
  refine Cell.p_storerow rfl 227 _ _ rfl w.heap.size rfl #[.int .i64 32, .int .i64 64, .int .i64 4, .func (.func 193) #[] #[]] rfl hsz (by simp [Value.oneCell']) (heap_alloc_new w _) rfl ?_
  intro w5 hr5 hg5 _
  simp only [Act.put]
  refine Step.p_assign rfl _ rfl (.bool true) rfl ?_
  simp only [Act.put, sA9, sB9, sC9]
  refine wpList_nil ?_
  have B5 := Lib.hid ((((Below.refl w.heap.size w).alloc (Nat.le_refl _) _).grown hg5 (by simp) (fun j hj => by cases hj; exact Nat.le_refl _)))
  clear hg5
  go_wp2
  exact Cell.ret_row_tmp rfl rfl hr5 Tryz.underlying227 rfl hsz rfl rfl ⟨rfl, B5.out⟩
/-- words whose values don't matter -/
def Ws (cs : Array Value) : Prop := cs.size = 8 ∧ ∀ j, j < 8 → ∃ z, cs[j]? = some (.int .u64 z)
set_option maxRecDepth 100000 in
set_option maxHeartbeats 4000000 in
theorem first_any (w : World) (hs : WordsAt 6 16 w) : Calls Tryz.prog 191 #[.int .i64 256] w fun e w' => (∃ cs, e = .returned (.agg cs) ∧ Ws cs) ∧ Below w.heap.size w w' := by
  have z8 : (Tryz.prog.info? 125).bind (·.zero) = some (.agg (arr .u64 8 fun _ => 0)) := by kernel_rfl
  have hi1 : (Tryz.prog.info? 25).map (·.size) = some 1 := by kernel_rfl
  have HS := Lib.hid hs
  clear hs
  go_enter Tryz.func191, Tryz.ntmps191
  go_upto_region 0 with fail
  refine wp_region_lit ?_
  refine New.p_newarr rfl 125 rfl .u64 8 z8 ?_
  intro w2 a2 g2 s2
  simp only [Act.put, sA9, sB9, sC9]
  refine wpList_nil ?_
  have B2 := Lib.hid ((Below.refl w.heap.size w).grown g2 (Nat.le_refl _) (by simp))
  have R2 := Lib.hid (rowP_of_arr a2)
  clear a2 g2 s2
  go_wp2
  go_loopw [4, 3, 8, 17] (fun i _ _ _ wr => ∃ k : Nat, k ≤ 8 ∧ i = .int .i64 k ∧ RowP wr w.heap.size 125 8 (isInt .u64) ∧ Below w.heap.size w wr) (fun i _ _ _ _ => 8 - (RowKit.intOf i).toNat)
  case atStart => exact ⟨0, by omega, rfl, R2.out, B2.out⟩
  case round =>
    obtain ⟨k, hk, rfl, hr, hb⟩ := hrel
    have R3 := Lib.hid hr
    have B3 := Lib.hid hb
    clear hr hb R2 B2
    by_cases hlt : k < 8
    · obtain ⟨x, hx⟩ := HS.out k (by omega)
      have HX := Lib.hid ((B3.out.cell (p := ⟨6, k, none⟩) (Frame.block_lt hx)).trans hx)
      clear hx
      go_upto_region 8 with fail
      refine wp_region_lit ?_
      refine Step.p_move rfl _ rfl (.int .i64 k) rfl ?_
      simp only [Act.put, sA9, sB9, sC9]
      refine Step.p_move rfl _ rfl (.int .i64 k) rfl ?_
      simp only [Act.put, sA9, sB9, sC9]
      refine Still.p_idxA rfl _ 25 _ _ rfl 6 0 rfl .i64 k rfl (n := 16) (by omega) Tryz.underlying182 (size := 1) (by kernel_rfl) k (by omega) ?_
      simp only [Act.put, sA9, sB9, sC9]
      refine Tree.p_load1 rfl _ _ rfl 6 k rfl (.int .u64 x) HX.out Tryz.underlying25 rfl ?_
      simp only [Act.put, sA9, sB9, sC9]
      refine p_int rfl .u64 (ex_shr _ _ _ _ rfl _ _ _ 32 rfl rfl) ?_
      intro z
      simp only [Act.put, sA9, sB9, sC9]
      refine Still.p_idxA rfl _ 25 _ _ rfl w.heap.size 0 rfl .i64 k rfl (n := 8) (by omega) Tryz.underlying125 (size := 1) (by kernel_rfl) k (by omega) ?_
      simp only [Act.put, sA9, sB9, sC9]
      refine p_storeP rfl 25 _ _ rfl w.heap.size k rfl .u64 z rfl hi1 R3.out (by omega) ⟨_, rfl⟩ ?_
      intro w4 r4 g4 _
      simp only [Act.put]
      refine wpList_nil ?_
      have R4 := Lib.hid r4
      have B4 := Lib.hid (B3.out.grown g4 B3.out.size (fun j hj => by cases hj; exact Nat.le_refl _))
      clear r4 g4 R3 B3 HX
      go_wp2
      exact ⟨⟨k + 1, by omega, by go_num, R4.out, B4.out⟩, by simp [RowKit.intOf]; omega⟩
    · obtain rfl : k = 8 := by omega
      obtain ⟨cs, h1, h2, h3⟩ := R3.out
      have H1 := Lib.hid h1
      have HW : Hid (Ws cs) := Lib.hid ⟨h2, fun j hj => by obtain ⟨u, e, z, rfl⟩ := h3 j hj; exact ⟨z, e⟩⟩
      have hsz : (Tryz.prog.info? 125).map (·.size) = some cs.size := by rw [h2]; kernel_rfl
      have hone : ∀ v ∈ cs.toList, v.oneCell' = true := fun v hv => by
        obtain ⟨j, hj⟩ := List.mem_iff_getElem?.1 hv
        have hl : j < 8 := by have := (List.getElem?_eq_some_iff.1 hj).1; simpa [h2] using this
        obtain ⟨z, e⟩ := HW.out.2 j hl
        rw [Array.getElem?_toList, e] at hj
        cases hj
        rfl
      clear h1 h3
      go_upto_region 14 with fail
      refine wp_region_lit ?_
      refine Tree.p_loadrow rfl _ _ rfl w.heap.size rfl H1.out Tryz.underlying125 rfl hsz ?_
      simp only [Act.put, sA9, sB9, sC9]
      refine Cell.p_storerow rfl 125 _ _ rfl w.heap.size rfl cs rfl hsz hone H1.out rfl ?_
      intro w5 hr5 hg5 _
      simp only [Act.put]
      refine wpList_nil ?_
      have B5 := Lib.hid (B3.out.grown hg5 B3.out.size (fun j hj => by cases hj; exact Nat.le_refl _))
      clear hg5
      go_wp2
      exact Cell.ret_row rfl rfl hr5 Tryz.underlying125 rfl hsz rfl ⟨⟨cs, rfl, HW.out⟩, B5.out⟩
end Go.Proofs.YtmifebcaifbmoaaGreatDoor.Dig
end

/- Dig5 -/
section
namespace Go.Proofs.YtmifebcaifbmoaaGreatDoor.Dig
open Go.RowKit Go.Lib Go.Proofs.YtmifebcaifbmoaaGreatDoor.Blk Go.Proofs.YtmifebcaifbmoaaGreatDoor.Tw Go.Proofs.YtmifebcaifbmoaaGreatDoor.G

/-- a block under way -/
structure SZ (sb : Nat) (T : TypeId) (cs : Array Value) (w w' : World) : Prop where
  hc : w'.heap[sb]? = some (.cells cs T (0, 0))
  gb : w.grownBy w' (some sb)
theorem SZ.bel {sb : Nat} {T : TypeId} {cs : Array Value} {w w1 w2 : World} (h : SZ sb T cs w w1) (hb : Below w1.heap.size w1 w2) : SZ sb T cs w w2 := ⟨(hb.block sb (Array.getElem?_eq_some_iff.1 h.hc).1).trans h.hc, gb_bel h.gb hb⟩
theorem SZ.drew {sb : Nat} {T : TypeId} {cs : Array Value} {w w1 : World} (h : SZ sb T cs w w1) : SZ sb T cs w w1.drew := h.bel (Below.refl _ _).drew
theorem SZ.put {sb : Nat} {T : TypeId} {cs cs2 : Array Value} {w w1 w2 : World} (h : SZ sb T cs w w1) (hr : w2.heap[sb]? = some (.cells cs2 T (0, 0))) (hg : w1.grownBy w2 (some sb)) : SZ sb T cs2 w w2 := ⟨hr, gb_trans h.gb hg⟩
theorem Ws.lit {cs : Array Value} (h : Ws cs) : ∃ z0 z1 z2 z3 z4 z5 z6 z7, cs = #[.int .u64 z0, .int .u64 z1, .int .u64 z2, .int .u64 z3, .int .u64 z4, .int .u64 z5, .int .u64 z6, .int .u64 z7] := by
  obtain ⟨l⟩ := cs
  obtain ⟨hs, hj⟩ := h
  match l, hs with
  | [a0, a1, a2, a3, a4, a5, a6, a7], _ =>
    obtain ⟨z0, e0⟩ := hj 0 (by decide)
    obtain ⟨z1, e1⟩ := hj 1 (by decide)
    obtain ⟨z2, e2⟩ := hj 2 (by decide)
    obtain ⟨z3, e3⟩ := hj 3 (by decide)
    obtain ⟨z4, e4⟩ := hj 4 (by decide)
    obtain ⟨z5, e5⟩ := hj 5 (by decide)
    obtain ⟨z6, e6⟩ := hj 6 (by decide)
    obtain ⟨z7, e7⟩ := hj 7 (by decide)
    cases e0; cases e1; cases e2; cases e3; cases e4; cases e5; cases e6; cases e7
    exact ⟨z0, z1, z2, z3, z4, z5, z6, z7, rfl⟩
/-- a state as a value -/
def StV (c : Nat) (cs : Array Value) : Prop := cs.size = 142 ∧ (∀ j, j < 142 → ∃ v, cs[j]? = some v ∧ stP c j v) ∧ ∀ v ∈ cs.toList, v.oneCell' = true
theorem stP_one {c j : Nat} {v : Value} (h : stP c j v) : v.oneCell' = true := by
  unfold stP at h
  split at h
  · subst h; rfl
  split at h
  · subst h; rfl
  split at h
  · subst h; rfl
  split at h
  · subst h; rfl
  split at h
  · subst h; rfl
  split at h
  · subst h; rfl
  split at h
  · obtain ⟨z, rfl⟩ := h; rfl
  · obtain ⟨z, rfl⟩ := h; rfl
theorem StV.of {c : Nat} {cs : Array Value} (h1 : cs.size = 142) (h2 : ∀ j, j < 142 → ∃ v, cs[j]? = some v ∧ stP c j v) : StV c cs := ⟨h1, h2, fun v hv => by
  obtain ⟨j, hj⟩ := List.mem_iff_getElem?.1 hv
  have hl : j < 142 := by have := (List.getElem?_eq_some_iff.1 hj).1; simpa [h1] using this
  obtain ⟨u, e, hu⟩ := h2 j hl
  rw [Array.getElem?_toList, e] at hj
  cases hj
  exact stP_one hu⟩
theorem StV.row {c : Nat} {cs : Array Value} {w : World} {b : Nat} {T : TypeId} (h : StV c cs) (hc : w.heap[b]? = some (.cells cs T (0, 0))) : RowP w b T 142 (stP c) := ⟨cs, hc, h.1, h.2.1⟩
theorem StV.ofRow {c : Nat} {w : World} {b : Nat} {T : TypeId} (h : RowP w b T 142 (stP c)) : ∃ cs, w.heap[b]? = some (.cells cs T (0, 0)) ∧ StV c cs := by
  obtain ⟨cs, h1, h2, h3⟩ := h
  exact ⟨cs, h1, .of h2 h3⟩
/-- the state that is begun with -/
def stL (z0 z1 z2 z3 z4 z5 z6 z7 : Int) : Array Value := List.toArray ([.int .i64 32, .int .i64 64, .int .i64 4, .func (.func 193) #[] #[], .int .i64 256, .int .u64 0, .int .u64 z0, .int .u64 z1, .int .u64 z2, .int .u64 z3, .int .u64 z4, .int .u64 z5, .int .u64 z6, .int .u64 z7] ++ List.replicate 128 (.int .u8 0))
theorem stL_size (z0 z1 z2 z3 z4 z5 z6 z7 : Int) : (stL z0 z1 z2 z3 z4 z5 z6 z7).size = 142 := by
  simp [stL]
theorem stL_get (z0 z1 z2 z3 z4 z5 z6 z7 : Int) : ∀ j, j < 142 → ∃ v, (stL z0 z1 z2 z3 z4 z5 z6 z7)[j]? = some v ∧ stP 0 j v := by
  intro j hj
  unfold stL
  rw [List.getElem?_toArray]
  rcases Nat.lt_or_ge j 14 with h | h
  · rw [List.getElem?_append_left (by simpa using h)]
    match j, h with
    | 0, _ => exact ⟨_, rfl, rfl⟩
    | 1, _ => exact ⟨_, rfl, rfl⟩
    | 2, _ => exact ⟨_, rfl, rfl⟩
    | 3, _ => exact ⟨_, rfl, rfl⟩
    | 4, _ => exact ⟨_, rfl, rfl⟩
    | 5, _ => exact ⟨_, rfl, rfl⟩
    | 6, _ => exact ⟨_, rfl, _, rfl⟩
    | 7, _ => exact ⟨_, rfl, _, rfl⟩
    | 8, _ => exact ⟨_, rfl, _, rfl⟩
    | 9, _ => exact ⟨_, rfl, _, rfl⟩
    | 10, _ => exact ⟨_, rfl, _, rfl⟩
    | 11, _ => exact ⟨_, rfl, _, rfl⟩
    | 12, _ => exact ⟨_, rfl, _, rfl⟩
    | 13, _ => exact ⟨_, rfl, _, rfl⟩
    | k + 14, hk => exact absurd hk (by omega)
  · obtain ⟨d, rfl⟩ : ∃ d, j = 14 + d := ⟨j - 14, by omega⟩
    rw [List.getElem?_append_right (by simp)]
    refine ⟨.int .u8 0, ?_, stP_half 0 d 0⟩
    rw [List.getElem?_replicate]
    simp
    omega
set_option maxRecDepth 100000 in
set_option maxHeartbeats 8000000 in
theorem begin_any (w : World) (hs : WordsAt 6 16 w) : Calls Tryz.prog 182 #[.int .i64 256] w fun e w' => (∃ cs, e = .returned (.tuple #[.agg cs, .bool true]) ∧ StV 0 cs) ∧ Below w.heap.size w w' := by
  have hk4 : (Tryz.prog.info? 227).map (·.size) = some 4 := by kernel_rfl
  have h142 : (Tryz.prog.info? 230).map (·.size) = some 142 := by kernel_rfl
  have zs : (Tryz.prog.info? 230).bind (·.zero) = some (.agg (#[.int .i64 0, .int .i64 0, .int .i64 0, .nilFunc, .int .i64 0, .int .u64 0, .int .u64 0, .int .u64 0, .int .u64 0, .int .u64 0, .int .u64 0, .int .u64 0, .int .u64 0, .int .u64 0, .int .u8 0, .int .u8 0, .int .u8 0, .int .u8 0, .int .u8 0, .int .u8 0, .int .u8 0, .int .u8 0, .int .u8 0, .int .u8 0, .int .u8 0, .int .u8 0, .int .u8 0, .int .u8 0, .int .u8 0, .int .u8 0, .int .u8 0, .int .u8 0, .int .u8 0, .int .u8 0, .int .u8 0, .int .u8 0, .int .u8 0, .int .u8 0, .int .u8 0, .int .u8 0, .int .u8 0, .int .u8 0, .int .u8 0, .int .u8 0, .int .u8 0, .int .u8 0, .int .u8 0, .int .u8 0, .int .u8 0, .int .u8 0, .int .u8 0, .int .u8 0, .int .u8 0, .int .u8 0, .int .u8 0, .int .u8 0, .int .u8 0, .int .u8 0, .int .u8 0, .int .u8 0, .int .u8 0, .int .u8 0, .int .u8 0, .int .u8 0, .int .u8 0, .int .u8 0, .int .u8 0, .int .u8 0, .int .u8 0, .int .u8 0, .int .u8 0, .int .u8 0, .int .u8 0, .int .u8 0, .int .u8 0, .int .u8 0, .int .u8 0, .int .u8 0, .int .u8 0, .int .u8 0, .int .u8 0, .int .u8 0, .int .u8 0, .int .u8 0, .int .u8 0, .int .u8 0, .int .u8 0, .int .u8 0, .int .u8 0, .int .u8 0, .int .u8 0, .int .u8 0, .int .u8 0, .int .u8 0, .int .u8 0, .int .u8 0, .int .u8 0, .int .u8 0, .int .u8 0, .int .u8 0, .int .u8 0, .int .u8 0, .int .u8 0, .int .u8 0, .int .u8 0, .int .u8 0, .int .u8 0, .int .u8 0, .int .u8 0, .int .u8 0, .int .u8 0, .int .u8 0, .int .u8 0, .int .u8 0, .int .u8 0, .int .u8 0, .int .u8 0, .int .u8 0, .int .u8 0, .int .u8 0, .int .u8 0, .int .u8 0, .int .u8 0, .int .u8 0, .int .u8 0, .int .u8 0, .int .u8 0, .int .u8 0, .int .u8 0, .int .u8 0, .int .u8 0, .int .u8 0, .int .u8 0, .int .u8 0, .int .u8 0, .int .u8 0, .int .u8 0, .int .u8 0, .int .u8 0, .int .u8 0, .int .u8 0, .int .u8 0] : Array Value)) := by kernel_rfl
  have zk : (Tryz.prog.info? 227).bind (·.zero) = some (.agg #[.int .i64 0, .int .i64 0, .int .i64 0, .nilFunc]) := by kernel_rfl
  have FI := Lib.hid (fun w' (h : Below w.heap.size w w') => first_any w' (hs.below h))
  have hsl : 6 < w.heap.size := by obtain ⟨z, hz⟩ := hs 0 (by decide); exact Frame.block_lt hz
  clear hs
  go_enter Tryz.func182, Tryz.ntmps182
  go_upto_region 0 with fail
  refine wp_region_lit ?_
  refine New.p_new rfl 230 rfl zs ?_
  simp only [Act.put, sA9, sB9, sC9]
  refine Step.p_assign rfl _ rfl (.bool false) rfl ?_
  simp only [Act.put, sA9, sB9, sC9]
  refine wpList_nil ?_
  obtain ⟨C0, hC0⟩ : ∃ C0, (Value.agg (#[.int .i64 0, .int .i64 0, .int .i64 0, .nilFunc, .int .i64 0, .int .u64 0, .int .u64 0, .int .u64 0, .int .u64 0, .int .u64 0, .int .u64 0, .int .u64 0, .int .u64 0, .int .u64 0, .int .u8 0, .int .u8 0, .int .u8 0, .int .u8 0, .int .u8 0, .int .u8 0, .int .u8 0, .int .u8 0, .int .u8 0, .int .u8 0, .int .u8 0, .int .u8 0, .int .u8 0, .int .u8 0, .int .u8 0, .int .u8 0, .int .u8 0, .int .u8 0, .int .u8 0, .int .u8 0, .int .u8 0, .int .u8 0, .int .u8 0, .int .u8 0, .int .u8 0, .int .u8 0, .int .u8 0, .int .u8 0, .int .u8 0, .int .u8 0, .int .u8 0, .int .u8 0, .int .u8 0, .int .u8 0, .int .u8 0, .int .u8 0, .int .u8 0, .int .u8 0, .int .u8 0, .int .u8 0, .int .u8 0, .int .u8 0, .int .u8 0, .int .u8 0, .int .u8 0, .int .u8 0, .int .u8 0, .int .u8 0, .int .u8 0, .int .u8 0, .int .u8 0, .int .u8 0, .int .u8 0, .int .u8 0, .int .u8 0, .int .u8 0, .int .u8 0, .int .u8 0, .int .u8 0, .int .u8 0, .int .u8 0, .int .u8 0, .int .u8 0, .int .u8 0, .int .u8 0, .int .u8 0, .int .u8 0, .int .u8 0, .int .u8 0, .int .u8 0, .int .u8 0, .int .u8 0, .int .u8 0, .int .u8 0, .int .u8 0, .int .u8 0, .int .u8 0, .int .u8 0, .int .u8 0, .int .u8 0, .int .u8 0, .int .u8 0, .int .u8 0, .int .u8 0, .int .u8 0, .int .u8 0, .int .u8 0, .int .u8 0, .int .u8 0, .int .u8 0, .int .u8 0, .int .u8 0, .int .u8 0, .int .u8 0, .int .u8 0, .int .u8 0, .int .u8 0, .int .u8 0, .int .u8 0, .int .u8 0, .int .u8 0, .int .u8 0, .int .u8 0, .int .u8 0, .int .u8 0, .int .u8 0, .int .u8 0, .int .u8 0, .int .u8 0, .int .u8 0, .int .u8 0, .int .u8 0, .int .u8 0, .int .u8 0, .int .u8 0, .int .u8 0, .int .u8 0, .int .u8 0, .int .u8 0, .int .u8 0, .int .u8 0, .int .u8 0, .int .u8 0, .int .u8 0, .int .u8 0, .int .u8 0, .int .u8 0, .int .u8 0] : Array Value)).cells = C0 := ⟨_, rfl⟩
  have hC0s : C0.size = 142 := by rw [← hC0]; rfl
  rw [hC0]
  clear hC0 zs
  have S1 := Lib.hid (heap_alloc_new w (.cells C0 230))
  have B1 := Lib.hid ((Below.refl w.heap.size w).alloc (Nat.le_refl _) (.cells C0 230))
  generalize w.alloc (.cells C0 230) = w1 at *
  go_upto_region 1 with fail
  refine wp_region_lit ?_
  refine Step.p_move rfl _ rfl (.int .i64 256) rfl ?_
  simp only [Act.put, sA9, sB9, sC9]
  refine Step.p_wp rfl (Step.w_callx 190 _ _ rfl Tryz.func190 (by kernel_rfl) rfl [.int .i64 256] rfl (kindOf_any _) ?_)
  rintro e w2 ⟨rfl, hb⟩
  refine ⟨_, rfl, ?_⟩
  simp only [Act.put, sA9, sB9, sC9]
  have S2 := Lib.hid ((hb.block w.heap.size (Array.getElem?_eq_some_iff.1 S1.out).1).trans S1.out)
  have B2 := Lib.hid (B1.out.trans (hb.mono B1.out.size))
  have hsl2 : w.heap.size < w2.heap.size := (Array.getElem?_eq_some_iff.1 S2.out).1
  clear hb S1 B1
  refine Step.p_move rfl _ rfl (.tuple #[.agg #[.int .i64 32, .int .i64 64, .int .i64 4, .func (.func 193) #[] #[]], .bool true]) rfl ?_
  simp only [Act.put, sA9, sB9, sC9]
  refine Step.p_val rfl (.agg #[.int .i64 32, .int .i64 64, .int .i64 4, .func (.func 193) #[] #[]]) (by unfold execOp; go_simp; try rfl) ?_
  simp only [Act.put, sA9, sB9, sC9]
  refine Step.p_val rfl (.bool true) (by unfold execOp; go_simp; try rfl) ?_
  simp only [Act.put, sA9, sB9, sC9]
  refine New.p_new rfl 227 rfl zk ?_
  simp only [Act.put, sA9, sB9, sC9]
  have S3 := Lib.hid ((heap_alloc_old w2 (.cells #[.int .i64 0, .int .i64 0, .int .i64 0, .nilFunc] 227) (Array.getElem?_eq_some_iff.1 S2.out).1).trans S2.out)
  have K3 := Lib.hid (heap_alloc_new w2 (.cells #[.int .i64 0, .int .i64 0, .int .i64 0, .nilFunc] 227))
  have B3 := Lib.hid (B2.out.alloc B2.out.size (.cells #[.int .i64 0, .int .i64 0, .int .i64 0, .nilFunc] 227))
  refine Cell.p_storerow rfl 227 _ _ rfl w2.heap.size rfl #[.int .i64 32, .int .i64 64, .int .i64 4, .func (.func 193) #[] #[]] rfl hk4 (by simp [Value.oneCell']) K3.out rfl ?_
  intro w4 hr4 hg4 _
  simp only [Act.put]
  have K4 := Lib.hid hr4
  have S4 := Lib.hid ((hg4.block w.heap.size (Array.getElem?_eq_some_iff.1 S3.out).1 (by simp; omega)).trans S3.out)
  have B4 := Lib.hid (B3.out.grown hg4 B3.out.size (fun j hj => by cases hj; exact B2.out.size))
  clear hr4 hg4 S3 K3 B3 S2 B2
  refine Step.p_assign rfl _ rfl (.bool true) rfl ?_
  simp only [Act.put, sA9, sB9, sC9]
  refine wpList_nil ?_
  generalize w2.heap.size = kb at *
  have hne : kb ≠ w.heap.size := by omega
  have Z0 : Hid (SZ w.heap.size 230 C0 w4 w4) := Lib.hid ⟨S4.out, gb_refl _ _⟩
  have LK : Hid (∀ w', w4.grownBy w' (some w.heap.size) → w'.heap[kb]? = some (.cells #[.int .i64 32, .int .i64 64, .int .i64 4, .func (.func 193) #[] #[]] 227 (0, 0))) := Lib.hid fun w' h => (h.block kb (Array.getElem?_eq_some_iff.1 K4.out).1 (fun e => hne (Option.some.inj e))).trans K4.out
  have BB : Hid (∀ w', w4.grownBy w' (some w.heap.size) → Below w.heap.size w w') := Lib.hid fun w' h => B4.out.grown h B4.out.size (fun j hj => by cases hj; exact Nat.le_refl _)
  clear S4 K4
  go_upto_region 2 with fail
  refine Step.begin_ (S := fun w' => w4.grownBy w' (some w.heap.size)) 8 rfl (by kernel_rfl) Z0.out.drew.gb ?_
  intro hSS
  clear hSS
  have Z1 := Lib.hid Z0.out.drew
  clear Z0
  refine Dig.t_loadrow (i := 0) rfl rfl (by kernel_rfl) (by kernel_rfl) (by kernel_rfl) Z1.out.gb _ _ rfl kb rfl LK.out Tryz.underlying227 rfl (by kernel_rfl) ?_
  simp only [Act.put, sA9, sB9, sC9]
  refine Step.t_move (i := 1) rfl rfl (by kernel_rfl) (by kernel_rfl) (by kernel_rfl) Z1.out.gb _ rfl (.int .i64 256) rfl ?_
  simp only [Act.put, sA9, sB9, sC9]
  refine Step.t_move (i := 2) rfl rfl (by kernel_rfl) (by kernel_rfl) (by kernel_rfl) Z1.out.gb _ rfl (.int .i64 256) rfl ?_
  simp only [Act.put, sA9, sB9, sC9]
  refine Step.t_move (i := 5) rfl rfl (by kernel_rfl) (by kernel_rfl) (by kernel_rfl) Z1.out.gb _ rfl (.bool true) rfl ?_
  simp only [Act.put, sA9, sB9, sC9]
  refine Step.t_one (i := 3) rfl rfl (by kernel_rfl) ?_
  refine Step.w_callx 191 _ _ rfl Tryz.func191 (by kernel_rfl) rfl [.int .i64 256] rfl (FI.out _ (BB.out _ Z1.out.gb)) ?_
  rintro e wf ⟨⟨cs, rfl, hws⟩, hb⟩
  have Zf := Lib.hid (Z1.out.bel hb)
  clear hb Z1
  refine ⟨_, rfl, Zf.out.gb, ?_⟩
  simp only [Act.put, sA9, sB9, sC9]
  obtain ⟨z0, z1, z2, z3, z4, z5, z6, z7, rfl⟩ := hws.lit
  clear hws
  have h142s : (Tryz.prog.info? 230).map (·.size) = some (stL z0 z1 z2 z3 z4 z5 z6 z7).size := by rw [stL_size]; exact h142
  refine Step.t_val (i := 4) rfl rfl (by kernel_rfl) (by kernel_rfl) (by kernel_rfl) Zf.out.gb (.agg (stL z0 z1 z2 z3 z4 z5 z6 z7)) (fun w' _ => by unfold execOp; go_simp; first | rfl | kernel_rfl) ?_
  simp only [Act.put, sA9, sB9, sC9]
  refine Step.t_one (i := 6) rfl rfl (by kernel_rfl) ?_
  refine Dig.w_storerow rfl 230 _ _ rfl w.heap.size rfl (stL z0 z1 z2 z3 z4 z5 z6 z7) rfl h142s (StV.of (stL_size _ _ _ _ _ _ _ _) (stL_get z0 z1 z2 z3 z4 z5 z6 z7)).2.2 Zf.out.hc ((stL_size _ _ _ _ _ _ _ _).trans hC0s.symm) ?_
  intro wg hr hg2
  have Zg := Lib.hid (Zf.out.put hr hg2)
  clear hr hg2 Zf
  refine ⟨Zg.out.gb, ?_⟩
  simp only [Act.put]
  refine Step.t_assign (i := 7) rfl rfl (by kernel_rfl) (by kernel_rfl) (by kernel_rfl) Zg.out.gb _ rfl (.bool true) rfl ?_
  simp only [Act.put, sA9, sB9, sC9]
  refine Step.t_end (by kernel_rfl) ?_
  go_wp2
  exact Cell.ret_row_tmp rfl rfl Zg.out.hc Tryz.underlying230 rfl h142s rfl rfl ⟨⟨_, rfl, .of (stL_size _ _ _ _ _ _ _ _) (stL_get z0 z1 z2 z3 z4 z5 z6 z7)⟩, BB.out _ Zg.out.gb⟩
end Go.Proofs.YtmifebcaifbmoaaGreatDoor.Dig
end
