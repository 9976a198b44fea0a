/- A value of one cell stored into a known row. General. -/
import Derived.Test.YtcgjhjijfhgclaaGreatDoorMCallv
import Derived.Test.YtcgjhjijfhgclaaGreatDoorMTree2
import Derived.Test.YtcgjhjijfhgclaaGreatDoorMPick
import Derived.Test.YtcgjhjijfhgclaaGreatDoorMCut
import Derived.Test.YtcgjhjijfhgclaaGreatDoorMFind
import Derived.Laws.AppendOwn
namespace Go.Proofs.YtcgjhjijfhgclaaGreatDoor.Step
open Go.RowKit Go.Lib Go.Proofs.YtcgjhjijfhgclaaGreatDoor.Tree
section
variable {P : Program} {a : Act} {w : World}
theorem run_storeV (t : TypeId) (hi : (P.info? t).map (·.size) = some 1) (v : Value) (hv : ∀ cs, v ≠ .agg cs) (h1 : v.oneCell' = true) (w : World) (b off : Nat) {T : TypeId} {cur : Array Value} (hb : w.heap[b]? = some (.cells cur T (0, 0))) (ho : off < cur.size) :
    (Instr.storeAt t (.pointer (some ⟨b, off, none⟩)) v).run P w = .ok () (w.setCell ⟨b, off, none⟩ v) := by
  cases hie : P.info? t with
  | none => simp [hie] at hi
  | some ie =>
    simp only [hie, Option.map_some, Option.some.injEq] at hi
    have hs : (sizeOf t).run P w = .ok 1 w := by simp [sizeOf, typeInfo, hie, hi]
    have hc := cell_of_row w b off _ _ _ hb
    have hf := frozen_of_row w b off _ _ hb
    rw [Array.getElem?_eq_getElem ho] at hc
    have hst : (store ⟨b, off, none⟩ v).run P w = .ok () (w.setCell ⟨b, off, none⟩ v) := by
      rw [run_store P w _ v _ h1, hc]
      simp [hf]
    cases v <;> first | exact absurd rfl (hv _) | (simp [Instr.storeAt, go_sem, storeVar, hs, storeCells, hst]; done) | (simp [Instr.storeAt, go_sem, storeVar, hs, storeCells, hc, hf]; done)
theorem w_storeV {o : Oper} {K : Act → World → Prop} {Q : Exit → Act → World → Prop} (t : TypeId) (x y : Operand) (ho : o.op = .store t x y) (b off : Nat) (hx : a.eval x = .pointer (some ⟨b, off, none⟩)) (v : Value) (hy : a.eval y = v) (hv : ∀ cs, v ≠ .agg cs) (h1 : v.oneCell' = true) (hi : (P.info? t).map (·.size) = some 1) {T : TypeId} {cs : Array Value} (hb : w.heap[b]? = some (.cells cs T (0, 0))) (hol : off < cs.size)
    (h : ∀ w', w'.heap[b]? = some (.cells (cs.setIfInBounds off v) T (0, 0)) → w.grownBy w' (some b) → w'.heap.size = w.heap.size → K (a.put o.dst undef) w') : o.wp P a w K Q :=
  w_skip (w' := w.setCell ⟨b, off, none⟩ v) (by
    unfold execOp
    simp only [ho, hx, hy, Sem.run_bind, run_storeV t hi v hv h1 w b off hb hol, Result.andThen_ok, Sem.run_pure]) (by
    rw [setCell_eq_setRow w b off cs T (0, 0) v hb]
    exact h _ (setRow_heap w b cs _ T (0, 0) hb) ⟨rfl, rfl, rfl, by simp, fun x _ hc => setRow_other w b x _ (fun e => hc (by rw [e]))⟩ (by simp))
theorem p_storeV {ops : Array Oper} {Q : Exit → Act → World → Prop} {o : Oper} {rest : List Oper} (hgd : o.guard = none) (t : TypeId) (x y : Operand) (ho : o.op = .store t x y) (b off : Nat) (hx : a.eval x = .pointer (some ⟨b, off, none⟩)) (v : Value) (hy : a.eval y = v) (hv : ∀ cs, v ≠ .agg cs) (h1 : v.oneCell' = true) (hi : (P.info? t).map (·.size) = some 1) {T : TypeId} {cs : Array Value} (hb : w.heap[b]? = some (.cells cs T (0, 0))) (hol : off < cs.size)
    (h : ∀ w', w'.heap[b]? = some (.cells (cs.setIfInBounds off v) T (0, 0)) → w.grownBy w' (some b) → w'.heap.size = w.heap.size → wpList P ops Q rest (a.put o.dst undef) w') : wpList P ops Q (o :: rest) a w :=
  wpList_plain hgd fun _K hK => w_storeV t x y ho b off hx v hy hv h1 hi hb hol fun w' e1 e2 e3 => hK _ _ (h w' e1 e2 e3)
end
end Go.Proofs.YtcgjhjijfhgclaaGreatDoor.Step

namespace Go.Proofs.YtcgjhjijfhgclaaGreatDoor.Tw
open Go.RowKit Go.Lib Go.Proofs.YtcgjhjijfhgclaaGreatDoor.Blk Go.Proofs.YtcgjhjijfhgclaaGreatDoor.Aes Go.Proofs.YtcgjhjijfhgclaaGreatDoor.Rj Go.Proofs.YtcgjhjijfhgclaaGreatDoor.Poly

theorem cells_ne {w : World} {b c : Nat} {cs ds : Array Value} {T U : TypeId} {f g : Nat × Nat} (h1 : w.heap[b]? = some (.cells cs T f)) (h2 : w.heap[c]? = some (.cells ds U g)) (h : T ≠ U) : b ≠ c := fun e => by
  subst e
  rw [h1] at h2
  cases h2
  exact h rfl
/-- a key at hand stays where another block changes that begins with a text -/
theorem Sched.grown {key : Nat → Nat} {nk : Nat} {v : Value} {w w' : World} {cb : Nat} {cs : Array Value} {T : TypeId} {u : Value} (h : Sched key nk v w) (hc : w.heap[cb]? = some (.cells cs T (0, 0))) (hT1 : 167 ≠ T) (hT2 : 196 ≠ T) (h0 : cs[0]? = some u) (hu : ∀ x, u ≠ .int .u32 x) (hg : w.grownBy w' (some cb)) : Sched key nk v w' := by
  obtain ⟨a1, a2, tb, wb, bb, kb, a3, K⟩ := h
  have c0 : w.cell? ⟨cb, 0, none⟩ = some u := by rw [cell_of_row w cb 0 _ _ _ hc]; exact h0
  have nek : kb ≠ cb := cells_ne K.c hc hT1
  have net : tb ≠ cb := by
    obtain ⟨C, e, _⟩ := K.t
    exact cells_ne e hc hT2
  have new_ : ∀ b (k : Nat → Nat → Nat), w.cell? ⟨b, 0 + (4 * 0 + 0), none⟩ = some (.int .u32 (colW (k 0) 0 : Nat)) → b ≠ cb := fun b k e e2 => by
    subst e2
    rw [show 0 + (4 * 0 + 0) = 0 from rfl, c0] at e
    exact hu _ (Option.some.inj e)
  have cell : ∀ {b o : Nat} {u : Value}, b ≠ cb → w.cell? ⟨b, o, none⟩ = some u → w'.cell? ⟨b, o, none⟩ = some u := fun {b o u} hb he => by
    rw [← he]
    unfold World.cell?
    rw [hg.block b (Frame.block_lt he) (fun e => hb (Option.some.inj e))]
  have newb := new_ wb (rk nk key) (K.ws 0 0 (by omega) (by decide))
  have nebb := new_ bb (backK (rk nk key) (nk + 6)) (K.bs 0 0 (by omega) (by decide))
  refine ⟨a1, a2, tb, wb, bb, kb, a3, ?_, ?_, fun r c hr hc => cell newb (K.ws r c hr hc), fun r c hr hc => cell nebb (K.bs r c hr hc)⟩
  · rw [hg.block kb (Array.getElem?_eq_some_iff.1 K.c).1 (fun e => nek (Option.some.inj e))]
    exact K.c
  · obtain ⟨C, e, e2⟩ := K.t
    exact ⟨C, (hg.block tb (Array.getElem?_eq_some_iff.1 e).1 (fun e => net (Option.some.inj e))).trans e, e2⟩
/-- what stands in a core: its key, its field -/
structure CoreAt (cs : Array Value) (v : Value) (fld : Nat → Nat) : Prop where
  n : cs.size = 37
  nm : ∃ s, cs[0]? = some (.string s)
  main : cs[2]? = some v
  fld : ∀ i, i < 16 → cs[4 + i]? = some (.int .u8 (fld i : Nat))
  wip : cs[36]? = some (.bool false)
theorem patch_get (cur : Array Value) (k : Nat) (vs : List Value) (h : k + vs.length ≤ cur.size) (i : Nat) : (Tree.patch cur k vs)[i]? = if k ≤ i ∧ i < k + vs.length then vs[i - k]? else cur[i]? := by
  have ht : (cur.toList.take k).length = k := by simp; omega
  rw [← Array.getElem?_toList, Tree.patch, List.toList_toArray]
  by_cases h1 : i < k
  · rw [List.append_assoc, List.getElem?_append_left (by omega), List.getElem?_take, if_pos h1, Array.getElem?_toList, if_neg (by omega)]
  · by_cases h2 : i < k + vs.length
    · rw [List.append_assoc, List.getElem?_append_right (by omega), List.getElem?_append_left (by omega), ht, if_pos (by omega)]
    · rw [List.getElem?_append_right (by rw [List.length_append, ht]; omega), List.length_append, ht, List.getElem?_drop, if_neg (by omega), Array.getElem?_toList]
      congr 1
      omega
/-- bytes of a slice at their cells -/
def KeyB (w : World) (g off n : Nat) (key : Nat → Nat) : Prop := ∀ j, j < n → w.cell? ⟨g, off + j, none⟩ = some (.int .u8 (key j : Nat))

set_option maxRecDepth 100000 in
set_option maxHeartbeats 4000000 in
theorem fieldParts_any (key : Nat → Nat) (nk : Nat) (hnk : nk = 4 ∨ nk = 6 ∨ nk = 8) (hkey : Byt key (4 * nk)) (cb g off cap : Nat) (cs : Array Value) (w : World) (hcb : w.heap[cb]? = some (.cells cs 63 (0, 0))) (hn : cs.size = 37) (h0 : ∃ s, cs[0]? = some (.string s)) (hw : cs[36]? = some (.bool false))
    (hc : KeyB w g off (4 * nk + 16) key) (hgc : g ≠ cb) (hcap : 4 * nk + 16 ≤ cap) (hcm : cap ≤ 9223372036854775807) (hR : RconAt w) :
    Calls Tryz.prog 64 #[.pointer (some ⟨cb, 0, none⟩), .slice (some ⟨g, off, none⟩) (4 * nk + 16) cap] w fun e w' => e = .returned (.tuple #[]) ∧ ∃ cs' v, w'.heap[cb]? = some (.cells cs' 63 (0, 0)) ∧ CoreAt cs' v (fun i => key (4 * nk + i)) ∧ Sched key nk v w' ∧ w.grownBy w' (some cb) := by
  have SC := Lib.hid (scheduled_any key nk hnk hkey g off cap w (fun j hj => hc j (by omega)) (by omega) hcm hR)
  have HC := Lib.hid hc
  have HCB := Lib.hid hcb
  have H0 := Lib.hid h0
  have HW := Lib.hid hw
  clear hc hcb hR h0 hw hkey
  have hnk4 : nk ≤ 8 ∧ 4 ≤ nk := by omega
  clear hnk
  go_enter Tryz.func64, Tryz.ntmps64
  go_upto_region 0 with fail
  refine wp_region_lit ?_
  refine Step.p_move rfl _ rfl (.slice (some ⟨g, off, none⟩) (4 * nk + 16) cap) rfl ?_
  simp only [Act.put, List.setIfInBounds_toArray, List.set_cons_zero, List.set_cons_succ]
  refine Step.p_len rfl _ _ 5 rfl (_) ((4 * nk + 16)) (cap) rfl Tryz.underlying22 ?_
  simp only [Act.put, List.setIfInBounds_toArray, List.set_cons_zero, List.set_cons_succ]
  refine Step.p_val rfl (.int .i64 (4 * nk : Nat)) (by unfold execOp; go_simp; try (first | rfl | omega | exact (IntWalk.i64_in _ (by omega)).trans (by omega))) ?_
  simp only [Act.put, List.setIfInBounds_toArray, List.set_cons_zero, List.set_cons_succ]
  refine Step.p_assign rfl _ rfl (.int .i64 (4 * nk : Nat)) rfl ?_
  simp only [Act.put, List.setIfInBounds_toArray, List.set_cons_zero, List.set_cons_succ]
  refine wpList_nil ?_
  go_upto_region 1 with fail
  refine wp_region_lit ?_
  refine Step.p_move rfl _ rfl (.pointer (some ⟨cb, 0, none⟩)) rfl ?_
  simp only [Act.put, List.setIfInBounds_toArray, List.set_cons_zero, List.set_cons_succ]
  refine Step.p_move rfl _ rfl (.slice (some ⟨g, off, none⟩) (4 * nk + 16) cap) rfl ?_
  simp only [Act.put, List.setIfInBounds_toArray, List.set_cons_zero, List.set_cons_succ]
  refine Step.p_move rfl _ rfl (.int .i64 (4 * nk : Nat)) rfl ?_
  simp only [Act.put, List.setIfInBounds_toArray, List.set_cons_zero, List.set_cons_succ]
  refine Step.p_val rfl (.slice (some ⟨g, off, none⟩) (4 * nk) cap) (by unfold execOp; go_simp; rw [if_pos ⟨by omega, by omega⟩, show (4 * (nk : Int)).toNat = 4 * nk by omega]) ?_
  simp only [Act.put, List.setIfInBounds_toArray, List.set_cons_zero, List.set_cons_succ]
  refine Step.p_wp rfl (Step.w_callx 76 [.tmp 11] _ rfl Tryz.func76 (by kernel_rfl) rfl [.slice (some ⟨g, off, none⟩) (4 * nk) cap] rfl (SC.out) ?_)
  rintro e w2 ⟨v, rfl, hsd, hb⟩
  refine ⟨_, rfl, ?_⟩
  simp only [Act.put, List.setIfInBounds_toArray, List.set_cons_zero, List.set_cons_succ]
  have HS := Lib.hid hsd
  have HB := Lib.hid hb
  have HC2 := Lib.hid ((hb.block cb (Array.getElem?_eq_some_iff.1 HCB.out).1).trans HCB.out)
  clear hsd hb
  refine Step.p_val rfl (.pointer (some ⟨cb, 0, none⟩)) (by unfold execOp; go_simp) ?_
  simp only [Act.put, List.setIfInBounds_toArray, List.set_cons_zero, List.set_cons_succ]
  refine Tree.p_field rfl _ _ _ rfl (cb) (0) rfl Tryz.underlying63 rfl (sz := 1) (by kernel_rfl) (by decide) (2) rfl ?_
  simp only [Act.put, List.setIfInBounds_toArray, List.set_cons_zero, List.set_cons_succ]
  refine Step.p_storeV rfl 61 _ _ rfl cb 2 rfl v rfl ?hv ?h1 (by kernel_rfl) HC2.out (by omega) ?_
  case hv => obtain ⟨_, _, _, _, _, _, rfl, _⟩ := HS.out; intro cs e; cases e
  case h1 => obtain ⟨_, _, _, _, _, _, rfl, _⟩ := HS.out; rfl
  intro w3 hr3 hg3 hs3
  simp only [Act.put]
  refine wpList_nil ?_
  have HR3 := Lib.hid hr3
  have HG3 := Lib.hid hg3
  clear hr3 hg3 hs3
  go_upto_region 2 with fail
  refine wp_region_still_tail 7 (by kernel_rfl) (by kernel_rfl) ?_
  refine Still.s_move rfl _ rfl (.pointer (some ⟨cb, 0, none⟩)) rfl ?_
  simp only [Act.put, List.setIfInBounds_toArray, List.set_cons_zero, List.set_cons_succ]
  refine Still.s_val rfl (.pointer (some ⟨cb, 0, none⟩)) (by unfold execOp; go_simp) ?_
  simp only [Act.put, List.setIfInBounds_toArray, List.set_cons_zero, List.set_cons_succ]
  refine Still.s_val rfl (.pointer (some ⟨cb, 4, none⟩)) (by unfold execOp; simp only [Sem.run_bind, Sem.run_pure]; rfl) ?_
  simp only [Act.put, List.setIfInBounds_toArray, List.set_cons_zero, List.set_cons_succ]
  refine Still.s_val rfl (.slice (some ⟨cb, 4, none⟩) 16 16) (by unfold execOp; go_simp; try rfl) ?_
  simp only [Act.put, List.setIfInBounds_toArray, List.set_cons_zero, List.set_cons_succ]
  refine Still.s_move rfl _ rfl (.slice (some ⟨g, off, none⟩) (4 * nk + 16) cap) rfl ?_
  simp only [Act.put, List.setIfInBounds_toArray, List.set_cons_zero, List.set_cons_succ]
  refine Still.s_move rfl _ rfl (.int .i64 (4 * nk : Nat)) rfl ?_
  simp only [Act.put, List.setIfInBounds_toArray, List.set_cons_zero, List.set_cons_succ]
  refine Still.s_val rfl (.slice (some ⟨g, off + 4 * nk, none⟩) 16 (cap - 4 * nk)) (by unfold execOp; go_simp; rw [if_pos ⟨by omega, by omega⟩, show (4 * (nk : Int)).toNat = 4 * nk by omega, if_neg (by omega), show 4 * nk + 16 - 4 * nk = 16 by omega]) ?_
  simp only [Act.put, List.setIfInBounds_toArray, List.set_cons_zero, List.set_cons_succ]
  refine wpStill_nil ?_
  simp only [List.drop]
  have hcell : ∀ j, j < 16 → w3.cell? ⟨g, off + 4 * nk + j, none⟩ = some (.int .u8 (key (4 * nk + j) : Nat)) := fun j hj => by
    have e := HC.out (4 * nk + j) (by omega)
    have e2 := (HB.out.cell (p := ⟨g, off + (4 * nk + j), none⟩) (Frame.block_lt e)).trans e
    rw [← Nat.add_assoc] at e2
    rw [← e2]
    unfold World.cell?
    rw [HG3.out.block g (Frame.block_lt e2) (fun e => hgc (Option.some.inj e))]
  refine Step.p_wp rfl (w_copy 22 22 5 _ _ rfl Tryz.underlying22 (by kernel_rfl) cb 4 16 16 rfl ⟨g, off + 4 * nk, none⟩ 16 (cap - 4 * nk) rfl (Push.bl (fun i => key (4 * nk + i)) 16) (w := w3.drew) HR3.out (by rw [Push.bl_len]; rfl) ?_ (by rw [Push.bl_len]; simp; omega) ?_ ?_)
  · intro j v hj
    have hl : j < 16 := by have := (List.getElem?_eq_some_iff.1 hj).1; rwa [Push.bl_len] at this
    rw [Push.bl_get _ _ _ hl] at hj
    rw [Addr.add_mid, ← hj]
    exact hcell j hl
  · intro v hv
    obtain ⟨i, hi⟩ := List.mem_iff_getElem?.1 hv
    have hl : i < 16 := by have := (List.getElem?_eq_some_iff.1 hi).1; rwa [Push.bl_len] at this
    rw [Push.bl_get _ _ _ hl] at hi
    cases hi
    rfl
  simp only [Act.put, List.setIfInBounds_toArray, List.set_cons_zero, List.set_cons_succ]
  refine wpList_nil ?_
  have hA := setRow_heap w3.drew cb _ (Tree.patch (cs.setIfInBounds 2 v) 4 (Push.bl (fun i => key (4 * nk + i)) 16)) 63 (0, 0) HR3.out
  have g1 : w.grownBy w2 (some cb) := ⟨HB.out.os, HB.out.tape, HB.out.output, HB.out.size, fun k hk _ => HB.out.block k hk⟩
  have g3 : w3.grownBy (w3.drew.setRow cb (Tree.patch (cs.setIfInBounds 2 v) 4 (Push.bl (fun i => key (4 * nk + i)) 16))) (some cb) := ⟨rfl, rfl, rfl, by simp, fun b hb hne => setRow_other w3.drew cb b _ (fun e => hne (by rw [e]))⟩
  have hG : w.grownBy (w3.drew.setRow cb (Tree.patch (cs.setIfInBounds 2 v) 4 (Push.bl (fun i => key (4 * nk + i)) 16))) (some cb) := gb_trans (gb_trans g1 HG3.out) g3
  have hS : Sched key nk v (w3.drew.setRow cb (Tree.patch (cs.setIfInBounds 2 v) 4 (Push.bl (fun i => key (4 * nk + i)) 16))) := by
    obtain ⟨s, hs⟩ := H0.out
    exact (HS.out.grown HC2.out (by decide) (by decide) hs (fun x e => by cases e) HG3.out).grown (u := .string s) HR3.out (by decide) (by decide) (by simpa using hs) (fun x e => by cases e) g3
  generalize w3.drew.setRow cb (Tree.patch (cs.setIfInBounds 2 v) 4 (Push.bl (fun i => key (4 * nk + i)) 16)) = w6 at *
  have HA := Lib.hid hA
  have HG := Lib.hid hG
  have HSS := Lib.hid hS
  clear hA hG hS g1 g3
  go_wp2
  go_end0
  have hpg := fun i => patch_get (cs.setIfInBounds 2 v) 4 (Push.bl (fun i => key (4 * nk + i)) 16) (by rw [Push.bl_len]; simp; omega) i
  refine ⟨rfl, _, v, HA.out, ⟨?_, ?_, ?_, fun i hi => ?_, ?_⟩, HSS.out, HG.out⟩
  · rw [Tree.patch_size _ _ _ (by rw [Push.bl_len]; simp; omega)]
    simp [hn]
  · obtain ⟨s, hs⟩ := H0.out
    exact ⟨s, by rw [hpg, if_neg (by omega)]; simpa using hs⟩
  · rw [hpg, if_neg (by omega)]
    simp [hn]
  · rw [hpg, if_pos ⟨by omega, by rw [Push.bl_len]; omega⟩, show 4 + i - 4 = i by omega, Push.bl_get _ _ _ hi]
  · rw [hpg, Push.bl_len, if_neg (by omega)]
    simpa using HW.out
end Go.Proofs.YtcgjhjijfhgclaaGreatDoor.Tw

namespace Go.Proofs.YtcgjhjijfhgclaaGreatDoor.Tw
open Go.RowKit Go.Lib Go.Proofs.YtcgjhjijfhgclaaGreatDoor.Blk

/-- between's function, with its function f at hand -/
def BtwAt (f : FuncId) (v : Value) (w : World) : Prop := ∃ p, v = .func (.func 125) #[] #[.pointer (some ⟨p, 0, none⟩)] ∧ w.cell? ⟨p, 0, none⟩ = some (.func (.func f) #[] #[])
/-- what seals (opens) with LRW: the cipher and between's function behind it -/
structure LrwAt (f : FuncId) (cb : Nat) (v : Value) (w : World) : Prop where
  h : ∃ x d u, v = .func (.func 104) #[] #[.pointer (some ⟨x, 0, none⟩), .pointer (some ⟨d, 0, none⟩)] ∧ w.cell? ⟨x, 0, none⟩ = some (.pointer (some ⟨cb, 0, none⟩)) ∧ w.cell? ⟨d, 0, none⟩ = some u ∧ BtwAt f u w
/-- cells that are not of a block stay when it alone changes -/
theorem cell_gb {w w' : World} {c : Nat} (hg : w.grownBy w' (some c)) {b o : Nat} {u : Value} (hne : b ≠ c) (he : w.cell? ⟨b, o, none⟩ = some u) : w'.cell? ⟨b, o, none⟩ = some u := by
  rw [← he]
  unfold World.cell?
  rw [hg.block b (Frame.block_lt he) (fun e => hne (Option.some.inj e))]
theorem cell_bel {w w' : World} (hb : Below w.heap.size w w') {b o : Nat} {u : Value} (he : w.cell? ⟨b, o, none⟩ = some u) : w'.cell? ⟨b, o, none⟩ = some u := (hb.cell (p := ⟨b, o, none⟩) (Frame.block_lt he)).trans he

set_option maxHeartbeats 1000000 in
theorem each_any (p x1 : Nat) (w : World) : Calls Tryz.prog 103 #[.func (.func 125) #[] #[.pointer (some ⟨p, 0, none⟩)], .pointer (some ⟨x1, 0, none⟩)] w fun e w' => e = .returned (.func (.func 104) #[] #[.pointer (some ⟨x1, 0, none⟩), .pointer (some ⟨w.heap.size, 0, none⟩)]) ∧ w'.cell? ⟨w.heap.size, 0, none⟩ = some (.func (.func 125) #[] #[.pointer (some ⟨p, 0, none⟩)]) ∧ Below w.heap.size w w' := by
  have hmf : ∀ (fn : Fn) (first cap : Array Value) (w : World), (Instr.makeFunc fn first cap).run Tryz.prog w = .ok (.func fn first cap) w := fun _ _ _ _ => by simp [Instr.makeFunc]
  have HB := Lib.hid ((Below.refl w.heap.size w).alloc (Nat.le_refl _) (.cells #[.func (.func 125) #[] #[.pointer (some ⟨p, 0, none⟩)]] 129))
  have HN := Lib.hid (heap_alloc_new w (.cells #[.func (.func 125) #[] #[.pointer (some ⟨p, 0, none⟩)]] 129))
  go_enter Tryz.func103, Tryz.ntmps103
  go_wp2
  go_ret
  exact ⟨rfl, by rw [cell_of_row _ _ _ _ _ _ HN.out]; rfl, HB.out⟩

set_option maxRecDepth 100000 in
set_option maxHeartbeats 8000000 in
theorem asLRW_any (cb : Nat) (v0 v1 : Value) (w : World) (hcb : w.heap[cb]? = some (.cells #[v0, v1, .nilFunc, .nilFunc] 58 (0, 0))) :
    Calls Tryz.prog 63 #[.pointer (some ⟨cb, 0, none⟩)] w fun e w' => e = .returned (.tuple #[]) ∧ ∃ s u, w'.heap[cb]? = some (.cells #[v0, v1, s, u] 58 (0, 0)) ∧ LrwAt 72 cb s w' ∧ LrwAt 75 cb u w' ∧ w.grownBy w' (some cb) := by
  have hmf : ∀ (fn : Fn) (first cap : Array Value) (w : World), (Instr.makeFunc fn first cap).run Tryz.prog w = .ok (.func fn first cap) w := fun _ _ _ _ => by simp [Instr.makeFunc]
  have B1 := Lib.hid ((Below.refl w.heap.size w).alloc (Nat.le_refl _) (.cells #[.pointer (some ⟨cb, 0, none⟩)] 30))
  have X1 : Hid ((w.alloc (.cells #[.pointer (some ⟨cb, 0, none⟩)] 30)).cell? ⟨w.heap.size, 0, none⟩ = some (.pointer (some ⟨cb, 0, none⟩))) := Lib.hid (by rw [cell_of_row _ _ _ _ _ _ (heap_alloc_new w _)]; rfl)
  have hcl : cb < w.heap.size := (Array.getElem?_eq_some_iff.1 hcb).1
  have C1 := Lib.hid ((B1.out.block cb hcl).trans hcb)
  have BT := Lib.hid (fun f w => between_any f w)
  have EA := Lib.hid (fun p x w => each_any p x w)
  clear hcb
  go_enter Tryz.func63, Tryz.ntmps63
  go_upto_region 2 with fail
  generalize w.alloc (.cells #[.pointer (some ⟨cb, 0, none⟩)] 30) = w1 at *
  refine Step.begin_ (S := fun w' => w'.cell? ⟨w.heap.size, 0, none⟩ = some (.pointer (some ⟨cb, 0, none⟩))) 14 rfl (by kernel_rfl) X1.out ?_
  intro hS
  have SX := Lib.hid hS
  clear hS
  refine Tree.t_load1 (i := 0) rfl rfl (by kernel_rfl) (by kernel_rfl) (by kernel_rfl) SX.out _ _ rfl w.heap.size 0 rfl (.pointer (some ⟨cb, 0, none⟩)) (fun w' hw' => hw') Tryz.underlying30 rfl ?_
  simp only [Act.put, List.setIfInBounds_toArray, List.set_cons_zero, List.set_cons_succ]
  refine Tree.t_load1 (i := 1) rfl rfl (by kernel_rfl) (by kernel_rfl) (by kernel_rfl) SX.out _ _ rfl w.heap.size 0 rfl (.pointer (some ⟨cb, 0, none⟩)) (fun w' hw' => hw') Tryz.underlying30 rfl ?_
  simp only [Act.put, List.setIfInBounds_toArray, List.set_cons_zero, List.set_cons_succ]
  refine Step.t_move (i := 2) rfl rfl (by kernel_rfl) (by kernel_rfl) (by kernel_rfl) SX.out _ rfl (.func (.func 103) #[] #[.pointer (some ⟨w.heap.size, 0, none⟩)]) rfl ?_
  simp only [Act.put, List.setIfInBounds_toArray, List.set_cons_zero, List.set_cons_succ]
  refine Step.t_move (i := 5) rfl rfl (by kernel_rfl) (by kernel_rfl) (by kernel_rfl) SX.out _ rfl (.func (.func 103) #[] #[.pointer (some ⟨w.heap.size, 0, none⟩)]) rfl ?_
  simp only [Act.put, List.setIfInBounds_toArray, List.set_cons_zero, List.set_cons_succ]
  have P1x : Hid (w1.drew.cell? ⟨w.heap.size, 0, none⟩ = some (.pointer (some ⟨cb, 0, none⟩))) := Lib.hid X1.out
  have P1b := Lib.hid B1.out.drew
  have z1 := P1b.out.size
  have P1c : Hid (w1.drew.heap[cb]? = some (.cells #[v0, v1, .nilFunc, .nilFunc] 58 (0, 0))) := Lib.hid C1.out
  clear X1 B1 C1
  refine Step.t_one (i := 3) rfl rfl (by kernel_rfl) ?_
  refine Step.w_callx 101 _ _ rfl Tryz.func101 (by kernel_rfl) rfl [.func (.func 72) #[] #[]] rfl (BT.out 72 _) ?_
  rintro e w2 ⟨rfl, hc, hb⟩
  have P2x := Lib.hid (cell_bel hb P1x.out)
  have P2b := Lib.hid (P1b.out.trans (hb.mono P1b.out.size))
  have zw2 := P2b.out.size
  have P2c := Lib.hid ((hb.block cb (Nat.lt_of_lt_of_le hcl P1b.out.size)).trans P1c.out)
  have P2f := Lib.hid hc
  refine ⟨_, rfl, P2x.out, ?_⟩
  simp only [Act.put, List.setIfInBounds_toArray, List.set_cons_zero, List.set_cons_succ]
  clear hc hb P1x P1b P1c
  refine Step.t_one (i := 4) rfl rfl (by kernel_rfl) ?_
  refine Step.w_callv _ _ _ rfl 103 [.pointer (some ⟨w.heap.size, 0, none⟩)] rfl Tryz.func103 (by kernel_rfl) rfl [.func (.func 125) #[] #[.pointer (some ⟨w1.drew.heap.size, 0, none⟩)]] rfl (EA.out w1.drew.heap.size w.heap.size _) ?_
  rintro e w3 ⟨rfl, hc, hb⟩
  have P3x := Lib.hid (cell_bel hb P2x.out)
  have P3b := Lib.hid (P2b.out.trans (hb.mono P2b.out.size))
  have zw3 := P3b.out.size
  have P3c := Lib.hid ((hb.block cb (Nat.lt_of_lt_of_le hcl P2b.out.size)).trans P2c.out)
  have P3g := Lib.hid hc
  have P3f := Lib.hid (cell_bel hb P2f.out)
  refine ⟨_, rfl, P3x.out, ?_⟩
  simp only [Act.put, List.setIfInBounds_toArray, List.set_cons_zero, List.set_cons_succ]
  clear hc hb P2x P2b P2c P2f
  refine Step.t_one (i := 6) rfl rfl (by kernel_rfl) ?_
  refine Step.w_callx 101 _ _ rfl Tryz.func101 (by kernel_rfl) rfl [.func (.func 75) #[] #[]] rfl (BT.out 75 _) ?_
  rintro e w4 ⟨rfl, hc, hb⟩
  have P4x := Lib.hid (cell_bel hb P3x.out)
  have P4b := Lib.hid (P3b.out.trans (hb.mono P3b.out.size))
  have zw4 := P4b.out.size
  have P4c := Lib.hid ((hb.block cb (Nat.lt_of_lt_of_le hcl P3b.out.size)).trans P3c.out)
  have P4f := Lib.hid hc
  have P4f2 := Lib.hid (cell_bel hb P3f.out)
  have P4g2 := Lib.hid (cell_bel hb P3g.out)
  refine ⟨_, rfl, P4x.out, ?_⟩
  simp only [Act.put, List.setIfInBounds_toArray, List.set_cons_zero, List.set_cons_succ]
  clear hc hb P3x P3b P3c P3f P3g
  refine Step.t_one (i := 7) rfl rfl (by kernel_rfl) ?_
  refine Step.w_callv _ _ _ rfl 103 [.pointer (some ⟨w.heap.size, 0, none⟩)] rfl Tryz.func103 (by kernel_rfl) rfl [.func (.func 125) #[] #[.pointer (some ⟨w3.heap.size, 0, none⟩)]] rfl (EA.out w3.heap.size w.heap.size _) ?_
  rintro e w5 ⟨rfl, hc, hb⟩
  have P5x := Lib.hid (cell_bel hb P4x.out)
  have P5b := Lib.hid (P4b.out.trans (hb.mono P4b.out.size))
  have zw5 := P5b.out.size
  have P5c := Lib.hid ((hb.block cb (Nat.lt_of_lt_of_le hcl P4b.out.size)).trans P4c.out)
  have P5g := Lib.hid hc
  have P5f := Lib.hid (cell_bel hb P4f.out)
  have P5f2 := Lib.hid (cell_bel hb P4f2.out)
  have P5g2 := Lib.hid (cell_bel hb P4g2.out)
  refine ⟨_, rfl, P5x.out, ?_⟩
  simp only [Act.put, List.setIfInBounds_toArray, List.set_cons_zero, List.set_cons_succ]
  clear hc hb P4x P4b P4c P4f P4f2 P4g2
  refine Step.t_val (i := 8) rfl rfl (by kernel_rfl) (by kernel_rfl) (by kernel_rfl) P5x.out (.pointer (some ⟨cb, 0, none⟩)) (fun w' _ => by rfl) ?_
  simp only [Act.put, List.setIfInBounds_toArray, List.set_cons_zero, List.set_cons_succ]
  refine Tree.t_field (i := 9) rfl rfl (by kernel_rfl) (by kernel_rfl) (by kernel_rfl) P5x.out _ _ _ rfl cb 0 rfl Tryz.underlying58 rfl (sz := 1) (by kernel_rfl) (by decide) 2 rfl ?_
  simp only [Act.put, List.setIfInBounds_toArray, List.set_cons_zero, List.set_cons_succ]
  refine Step.t_one (i := 10) rfl rfl (by kernel_rfl) ?_
  refine Step.w_storeV 56 _ _ rfl cb 2 rfl (.func (.func 104) #[] #[.pointer (some ⟨w.heap.size, 0, none⟩), .pointer (some ⟨w2.heap.size, 0, none⟩)]) rfl (fun _ e => by cases e) rfl (by kernel_rfl) P5c.out (by simp) ?_
  intro w6 hr hg _
  refine ⟨cell_gb hg (by omega) P5x.out, ?_⟩
  simp only [Act.put]
  have P6x := Lib.hid (cell_gb hg (by omega) P5x.out)
  have P6c := Lib.hid hr
  have P6G := Lib.hid hg
  clear hr hg
  refine Step.t_val (i := 11) rfl rfl (by kernel_rfl) (by kernel_rfl) (by kernel_rfl) P6x.out (.pointer (some ⟨cb, 0, none⟩)) (fun w' _ => by rfl) ?_
  simp only [Act.put, List.setIfInBounds_toArray, List.set_cons_zero, List.set_cons_succ]
  refine Tree.t_field (i := 12) rfl rfl (by kernel_rfl) (by kernel_rfl) (by kernel_rfl) P6x.out _ _ _ rfl cb 0 rfl Tryz.underlying58 rfl (sz := 1) (by kernel_rfl) (by decide) 3 rfl ?_
  simp only [Act.put, List.setIfInBounds_toArray, List.set_cons_zero, List.set_cons_succ]
  refine Step.t_one (i := 13) rfl rfl (by kernel_rfl) ?_
  refine Step.w_storeV 56 _ _ rfl cb 3 rfl (.func (.func 104) #[] #[.pointer (some ⟨w.heap.size, 0, none⟩), .pointer (some ⟨w4.heap.size, 0, none⟩)]) rfl (fun _ e => by cases e) rfl (by kernel_rfl) P6c.out (by simp) ?_
  intro w7 hr hg _
  refine ⟨cell_gb hg (by omega) P6x.out, ?_⟩
  simp only [Act.put]
  have G7 := Lib.hid (gb_trans P6G.out hg)
  have HR := Lib.hid hr
  refine Step.t_end (by kernel_rfl) ?_
  have l1 := hcl
  have l2 := Frame.block_lt P5g2.out
  clear hr hg P6x
  go_wp2
  go_end0
  have keep : ∀ {b o : Nat} {u : Value}, b ≠ cb → w5.cell? ⟨b, o, none⟩ = some u → w7.cell? ⟨b, o, none⟩ = some u := fun hne h => cell_gb G7.out hne h
  have g0 : w.grownBy w7 (some cb) := gb_trans ⟨P5b.out.os, P5b.out.tape, P5b.out.output, P5b.out.size, fun k hk _ => P5b.out.block k hk⟩ G7.out
  exact ⟨rfl, _, _, HR.out, ⟨⟨_, _, _, rfl, keep (by omega) P5x.out, keep (by omega) P5g2.out, ⟨_, rfl, keep (by omega) P5f2.out⟩⟩⟩, ⟨⟨_, _, _, rfl, keep (by omega) P5x.out, keep (by omega) P5g.out, ⟨_, rfl, keep (by omega) P5f.out⟩⟩⟩, g0⟩
end Go.Proofs.YtcgjhjijfhgclaaGreatDoor.Tw

namespace Go.Proofs.YtcgjhjijfhgclaaGreatDoor.Tw
open Go.RowKit Go.Lib Go.Proofs.YtcgjhjijfhgclaaGreatDoor.Blk Go.Proofs.YtcgjhjijfhgclaaGreatDoor.Aes Go.Proofs.YtcgjhjijfhgclaaGreatDoor.Tab

/-- a cipher of LRW, whole -/
structure CiphLrw (key : Nat → Nat) (nk cb : Nat) (w : World) : Prop where
  h : ∃ xb gk d s u cs v, w.heap[cb]? = some (.cells #[.pointer (some ⟨xb, 0, none⟩), .pointer (some ⟨gk, 14 * 7, none⟩), s, u] 58 (0, 0)) ∧ w.heap[xb]? = some (.cells cs 63 (0, 0)) ∧ CoreAt cs v (fun i => key (4 * nk + i)) ∧ Sched key nk v w ∧ KindsAt gk d w ∧ LrwAt 72 cb s w ∧ LrwAt 75 cb u w
theorem BtwAt.below {f : FuncId} {v : Value} {w w' : World} (h : BtwAt f v w) (hb : Below w.heap.size w w') : BtwAt f v w' := by
  obtain ⟨p, h1, h2⟩ := h
  exact ⟨p, h1, cell_bel hb h2⟩
theorem LrwAt.below {f : FuncId} {cb : Nat} {v : Value} {w w' : World} (h : LrwAt f cb v w) (hb : Below w.heap.size w w') : LrwAt f cb v w' := by
  obtain ⟨x, d, u, h1, h2, h3, h4⟩ := h
  exact ⟨x, d, u, h1, cell_bel hb h2, cell_bel hb h3, h4.below hb⟩
theorem CiphLrw.below {key : Nat → Nat} {nk cb : Nat} {w w' : World} (h : CiphLrw key nk cb w) (hb : Below w.heap.size w w') : CiphLrw key nk cb w' := by
  obtain ⟨xb, gk, d, s, u, cs, v, h1, h2, h3, h4, h5, h6, h7⟩ := h
  exact ⟨xb, gk, d, s, u, cs, v, (hb.block cb (Array.getElem?_eq_some_iff.1 h1).1).trans h1, (hb.block xb (Array.getElem?_eq_some_iff.1 h2).1).trans h2, h3, h4.below hb, h5.below hb, h6.below hb, h7.below hb⟩
theorem KindsAt_lt {g d : Nat} {w : World} (h : KindsAt g d w) : g < w.heap.size ∧ d < w.heap.size :=
  ⟨Frame.block_lt (h.c 0 (by decide) 0 _ rfl), (Array.getElem?_eq_some_iff.1 h.d).1⟩
theorem KindsAt_gb {g d c : Nat} {w w' : World} (h : KindsAt g d w) (hg : w.grownBy w' (some c)) (h1 : g ≠ c) (h2 : d ≠ c) : KindsAt g d w' :=
  ⟨fun k hk i v hv => cell_gb hg h1 (h.c k hk i v hv), (hg.block d (KindsAt_lt h).2 (fun e => h2 (Option.some.inj e))).trans h.d⟩
/-- a new core -/
def coreZ (s : ByteArray) (n : Int) : Array Value := #[.string s, .int .i64 n, .pointer none, .pointer none, .int .u8 0, .int .u8 0, .int .u8 0, .int .u8 0, .int .u8 0, .int .u8 0, .int .u8 0, .int .u8 0, .int .u8 0, .int .u8 0, .int .u8 0, .int .u8 0, .int .u8 0, .int .u8 0, .int .u8 0, .int .u8 0, .int .u8 0, .int .u8 0, .int .u8 0, .int .u8 0, .int .u8 0, .int .u8 0, .int .u8 0, .int .u8 0, .int .u8 0, .int .u8 0, .int .u8 0, .int .u8 0, .int .u8 0, .int .u8 0, .int .u8 0, .int .u8 0, .bool false]
theorem KeyB.below {w w' : World} {g off n : Nat} {key : Nat → Nat} (h : KeyB w g off n key) (hb : Below w.heap.size w w') : KeyB w' g off n key := fun j hj => cell_bel hb (h j hj)

set_option maxRecDepth 100000 in
set_option maxHeartbeats 4000000 in
theorem newLrw_any (key : Nat → Nat) (i0 : Nat) (hi : i0 < 3) (hkey : Byt key (4 * (4 + 2 * i0))) (g off cap : Nat) (w : World) (hc : KeyB w g off (4 * (4 + 2 * i0) + 16) key) (hcap : 4 * (4 + 2 * i0) + 16 ≤ cap) (hcm : cap ≤ 9223372036854775807) (hR : RconAt w) (hS : Sizes w) :
    Calls Tryz.prog 16 #[.string (pre i0 ++ nm 14), .slice (some ⟨g, off, none⟩) (4 * (4 + 2 * i0) + 16) cap] w fun e w' => ∃ cb, e = .returned (.tuple #[.pointer (some ⟨cb, 0, none⟩), .int .i64 0]) ∧ CiphLrw key (4 + 2 * i0) cb w' ∧ Below w.heap.size w w' := by
  have hsz : szT i0 14 = ((4 * (4 + 2 * i0) + 16 : Nat) : Int) := by
    have : szT i0 14 = 16 + 8 * (i0 : Int) + 16 := rfl
    omega
  have FI := Lib.hid (find_any i0 14 hi (by decide) w hS)
  rw [hsz] at FI
  have hgl : g < w.heap.size := Frame.block_lt (hc 0 (by omega))
  have FP := Lib.hid (fun xb w => fieldParts_any key (4 + 2 * i0) (by omega) hkey xb g off cap (coreZ (pre i0 ++ nm 14) ((4 * (4 + 2 * i0) + 16 : Nat) : Int)) w)
  have HC := Lib.hid hc
  have HR := Lib.hid hR
  clear hc hR hS hsz hkey
  generalize 4 + 2 * i0 = nk at *
  generalize pre i0 ++ nm 14 = spec at *
  generalize hn : 4 * nk + 16 = n at *
  have HN := Lib.hid hn
  clear hn
  go_enter Tryz.func16, Tryz.ntmps16
  go_upto_region 6 with (go_at_call 22; refine FI.out.mono ?_; rintro e w2 ⟨gk, d, rfl, hg2, hka, hb⟩)
  have K2 := Lib.hid hka
  have B2 := Lib.hid hb
  obtain ⟨kl1, kl2⟩ := KindsAt_lt hka
  clear hka hb
  refine wp_region_lit ?_
  refine Step.p_move rfl _ rfl (.string spec) rfl ?_
  simp only [Act.put, List.setIfInBounds_toArray, List.set_cons_zero, List.set_cons_succ]
  refine Step.p_move rfl _ rfl (.slice (some ⟨g, off, none⟩) n cap) rfl ?_
  simp only [Act.put, List.setIfInBounds_toArray, List.set_cons_zero, List.set_cons_succ]
  refine Step.p_len rfl _ _ 5 rfl (_) (n) (cap) rfl Tryz.underlying22 ?_
  simp only [Act.put, List.setIfInBounds_toArray, List.set_cons_zero, List.set_cons_succ]
  refine Step.p_val rfl (.agg (coreZ spec (n : Nat))) (by unfold execOp; go_simp; rfl) ?_
  simp only [Act.put, List.setIfInBounds_toArray, List.set_cons_zero, List.set_cons_succ]
  refine Seg.p_boxA rfl 63 _ rfl (coreZ spec (n : Nat)) rfl ?_
  simp only [Act.put, List.setIfInBounds_toArray, List.set_cons_zero, List.set_cons_succ]
  refine Step.p_move rfl _ rfl (.pointer (some ⟨gk, 14 * 7, none⟩)) rfl ?_
  simp only [Act.put, List.setIfInBounds_toArray, List.set_cons_zero, List.set_cons_succ]
  refine Step.p_val rfl (.agg #[.pointer (some ⟨w2.heap.size, 0, none⟩), .pointer (some ⟨gk, 14 * 7, none⟩), .nilFunc, .nilFunc]) (by unfold execOp; go_simp; try rfl) ?_
  simp only [Act.put, List.setIfInBounds_toArray, List.set_cons_zero, List.set_cons_succ]
  refine Seg.p_boxA rfl 58 _ rfl _ rfl ?_
  simp only [Act.put, List.setIfInBounds_toArray, List.set_cons_zero, List.set_cons_succ]
  rw [World.size_alloc]
  refine Step.p_assign rfl _ rfl (.pointer (some ⟨w2.heap.size + 1, 0, none⟩)) rfl ?_
  simp only [Act.put, List.setIfInBounds_toArray, List.set_cons_zero, List.set_cons_succ]
  refine wpList_nil ?_
  have X3 : Hid (((w2.alloc (.cells (coreZ spec (n : Nat)) 63)).alloc (.cells #[.pointer (some ⟨w2.heap.size, 0, none⟩), .pointer (some ⟨gk, 14 * 7, none⟩), .nilFunc, .nilFunc] 58)).heap[w2.heap.size]? = some (.cells (coreZ spec (n : Nat)) 63 (0, 0))) := Lib.hid ((heap_alloc_old _ _ (by simp)).trans (heap_alloc_new w2 _))
  have Y3 : Hid (((w2.alloc (.cells (coreZ spec (n : Nat)) 63)).alloc (.cells #[.pointer (some ⟨w2.heap.size, 0, none⟩), .pointer (some ⟨gk, 14 * 7, none⟩), .nilFunc, .nilFunc] 58)).heap[w2.heap.size + 1]? = some (.cells #[.pointer (some ⟨w2.heap.size, 0, none⟩), .pointer (some ⟨gk, 14 * 7, none⟩), .nilFunc, .nilFunc] 58 (0, 0))) := Lib.hid (by
    have := heap_alloc_new (w2.alloc (.cells (coreZ spec (n : Nat)) 63)) (.cells #[.pointer (some ⟨w2.heap.size, 0, none⟩), .pointer (some ⟨gk, 14 * 7, none⟩), .nilFunc, .nilFunc] 58)
    rwa [World.size_alloc] at this)
  have B3 : Hid (Below w2.heap.size w2 ((w2.alloc (.cells (coreZ spec (n : Nat)) 63)).alloc (.cells #[.pointer (some ⟨w2.heap.size, 0, none⟩), .pointer (some ⟨gk, 14 * 7, none⟩), .nilFunc, .nilFunc] 58))) := Lib.hid (((Below.refl _ _).alloc (Nat.le_refl _) _).alloc (by simp) _)
  generalize ((w2.alloc (.cells (coreZ spec (n : Nat)) 63)).alloc (.cells #[.pointer (some ⟨w2.heap.size, 0, none⟩), .pointer (some ⟨gk, 14 * 7, none⟩), .nilFunc, .nilFunc] 58)) = w3 at *
  have hs2 := B2.out.size
  have K3 := Lib.hid (K2.out.below B3.out)
  have BB3 := Lib.hid (B2.out.trans (B3.out.mono B2.out.size))
  go_upto_region 7 with fail
  refine wp_region_still_tail 9 (by kernel_rfl) (by kernel_rfl) ?_
  refine Still.s_move rfl _ rfl (.pointer (some ⟨gk, 14 * 7, none⟩)) rfl ?_
  simp only [Act.put, List.setIfInBounds_toArray, List.set_cons_zero, List.set_cons_succ]
  refine Still.s_val rfl (.pointer (some ⟨gk, 14 * 7, none⟩)) (by unfold execOp; go_simp) ?_
  simp only [Act.put, List.setIfInBounds_toArray, List.set_cons_zero, List.set_cons_succ]
  refine Still.s_val rfl (.pointer (some ⟨gk, 14 * 7 + 5, none⟩)) (by unfold execOp; simp only [Sem.run_bind, Sem.run_pure]; rfl) ?_
  simp only [Act.put, List.setIfInBounds_toArray, List.set_cons_zero, List.set_cons_succ]
  refine Still.s_load1 rfl _ _ rfl (gk) (14 * 7 + 5) rfl (fv 64) (K3.out.c 14 (by decide) 5 _ rfl) Tryz.underlying66 rfl ?_
  simp only [Act.put, List.setIfInBounds_toArray, List.set_cons_zero, List.set_cons_succ]
  refine Still.s_move rfl _ rfl (.pointer (some ⟨w2.heap.size + 1, 0, none⟩)) rfl ?_
  simp only [Act.put, List.setIfInBounds_toArray, List.set_cons_zero, List.set_cons_succ]
  refine Still.s_val rfl (.pointer (some ⟨w2.heap.size + 1, 0, none⟩)) (by unfold execOp; go_simp) ?_
  simp only [Act.put, List.setIfInBounds_toArray, List.set_cons_zero, List.set_cons_succ]
  refine Still.s_val rfl (.pointer (some ⟨w2.heap.size + 1, 0, none⟩)) (by unfold execOp; simp only [Sem.run_bind, Sem.run_pure]; rfl) ?_
  simp only [Act.put, List.setIfInBounds_toArray, List.set_cons_zero, List.set_cons_succ]
  refine Still.s_load1 rfl _ _ rfl (w2.heap.size + 1) (0) rfl (.pointer (some ⟨w2.heap.size, 0, none⟩)) (by show w3.cell? _ = _; rw [cell_of_row w3 _ _ _ _ _ Y3.out]; rfl) Tryz.underlying54 rfl ?_
  simp only [Act.put, List.setIfInBounds_toArray, List.set_cons_zero, List.set_cons_succ]
  refine Still.s_move rfl _ rfl (.slice (some ⟨g, off, none⟩) n cap) rfl ?_
  simp only [Act.put, List.setIfInBounds_toArray, List.set_cons_zero, List.set_cons_succ]
  refine wpStill_nil ?_
  simp only [List.drop]
  refine Step.p_wp rfl (Step.w_callv _ _ _ rfl 64 [] rfl Tryz.func64 (by kernel_rfl) rfl [.pointer (some ⟨w2.heap.size, 0, none⟩), .slice (some ⟨g, off, none⟩) n cap] rfl (FP.out w2.heap.size w3.drew X3.out rfl ⟨_, rfl⟩ rfl (HC.out.below BB3.out.drew) (by omega) (by omega) hcm (HR.out.below BB3.out.drew)) ?_)
  rintro e w4 ⟨rfl, cs4, v4, h4c, h4a, h4s, h4g⟩
  refine ⟨_, rfl, ?_⟩
  simp only [Act.put, List.setIfInBounds_toArray, List.set_cons_zero, List.set_cons_succ]
  refine wpList_nil ?_
  have C4 := Lib.hid h4c
  have A4 := Lib.hid h4a
  have S4 := Lib.hid h4s
  have G4 : Hid (w3.grownBy w4 (some w2.heap.size)) := Lib.hid ⟨h4g.os, h4g.tape, h4g.output, h4g.size, h4g.block⟩
  clear h4c h4a h4s h4g
  have hl3 : w2.heap.size + 1 < w3.heap.size := (Array.getElem?_eq_some_iff.1 Y3.out).1
  have Y4 := Lib.hid ((G4.out.block (w2.heap.size + 1) hl3 (by simp)).trans Y3.out)
  have K4 := Lib.hid (KindsAt_gb K3.out G4.out (by omega) (by omega))
  have B4 := Lib.hid (BB3.out.grown G4.out BB3.out.size (fun j hj => by cases hj; exact hs2))
  clear K3 BB3 B3 X3 Y3 FP FI
  go_upto_region 8 with fail
  refine wp_region_lit ?_
  refine Step.p_move rfl _ rfl (.pointer (some ⟨gk, 14 * 7, none⟩)) rfl ?_
  simp only [Act.put, List.setIfInBounds_toArray, List.set_cons_zero, List.set_cons_succ]
  refine Step.p_val rfl (.pointer (some ⟨gk, 14 * 7, none⟩)) (by unfold execOp; go_simp) ?_
  simp only [Act.put, List.setIfInBounds_toArray, List.set_cons_zero, List.set_cons_succ]
  refine Tree.p_field rfl _ _ _ rfl (gk) (14 * 7) rfl Tryz.underlying68 rfl (sz := 1) (by kernel_rfl) (by decide) (14 * 7 + 4) rfl ?_
  simp only [Act.put, List.setIfInBounds_toArray, List.set_cons_zero, List.set_cons_succ]
  refine Tree.p_load1 rfl _ _ rfl (gk) (14 * 7 + 4) rfl (fv 63) (K4.out.c 14 (by decide) 4 _ rfl) Tryz.underlying65 rfl ?_
  simp only [Act.put, List.setIfInBounds_toArray, List.set_cons_zero, List.set_cons_succ]
  refine Step.p_move rfl _ rfl (.pointer (some ⟨w2.heap.size + 1, 0, none⟩)) rfl ?_
  simp only [Act.put, List.setIfInBounds_toArray, List.set_cons_zero, List.set_cons_succ]
  refine Step.p_wp rfl (Step.w_callv _ _ _ rfl 63 [] rfl Tryz.func63 (by kernel_rfl) rfl [.pointer (some ⟨w2.heap.size + 1, 0, none⟩)] rfl (asLRW_any (w2.heap.size + 1) _ _ w4 Y4.out) ?_)
  rintro e w5 ⟨rfl, s5, u5, h5c, h5s, h5u, h5g⟩
  refine ⟨_, rfl, ?_⟩
  simp only [Act.put, List.setIfInBounds_toArray, List.set_cons_zero, List.set_cons_succ]
  refine wpList_nil ?_
  have hl4 : w2.heap.size < w4.heap.size := (Array.getElem?_eq_some_iff.1 C4.out).1
  have C5 := (h5g.block w2.heap.size hl4 (by simp)).trans C4.out
  have S5 := S4.out.grown Y4.out (by decide) (by decide) rfl (fun x e => by cases e) h5g
  have K5 := KindsAt_gb K4.out h5g (by omega) (by omega)
  have B5 := B4.out.grown h5g B4.out.size (fun j hj => by cases hj; omega)
  have HF : Hid (CiphLrw key nk (w2.heap.size + 1) w5 ∧ Below w.heap.size w w5) := Lib.hid ⟨⟨_, gk, d, s5, u5, cs4, v4, h5c, C5, A4.out, S5, K5, h5s, h5u⟩, B5⟩
  clear h5c h5s h5u h5g C5 S5 K5 B5
  go_wp2
  go_ret2
  exact ⟨_, rfl, HF.out⟩
end Go.Proofs.YtcgjhjijfhgclaaGreatDoor.Tw

namespace Go.Proofs.YtcgjhjijfhgclaaGreatDoor.Tw
open Go.RowKit Go.Lib Go.Proofs.YtcgjhjijfhgclaaGreatDoor.Blk Go.Proofs.YtcgjhjijfhgclaaGreatDoor.Aes Go.Proofs.YtcgjhjijfhgclaaGreatDoor.Tab Go.Proofs.YtcgjhjijfhgclaaGreatDoor.Byts Go.Proofs.YtcgjhjijfhgclaaGreatDoor.Push

theorem none_any (cb xb : Nat) (w : World) (h : w.cell? ⟨cb, 0, none⟩ = some (.pointer (some ⟨xb, 0, none⟩))) : Calls Tryz.prog 29 #[.pointer (some ⟨cb, 0, none⟩)] w fun e w' => e = .returned (.bool false) ∧ w = w' := by
  go_enter Tryz.func29, Tryz.ntmps29
  go_wp2
  go_ret
  exact ⟨rfl, rfl⟩
set_option maxRecDepth 100000 in
set_option maxHeartbeats 2000000 in
theorem may_any (cb xb gk ko n : Nat) (loose : Bool) (w : World) (h1 : w.cell? ⟨cb, 0, none⟩ = some (.pointer (some ⟨xb, 0, none⟩))) (h2 : w.cell? ⟨xb, 36, none⟩ = some (.bool false)) (h3 : w.cell? ⟨cb, 1, none⟩ = some (.pointer (some ⟨gk, ko, none⟩))) (h4 : w.cell? ⟨gk, ko + 6, none⟩ = some (.bool loose)) (hn : 16 ≤ n) (hn2 : n ≤ 4096) (hl : loose = true ∨ n % 16 = 0) :
    Calls Tryz.prog 20 #[.pointer (some ⟨cb, 0, none⟩), .int .i64 n] w fun e w' => e = .returned (.int .i64 0) ∧ w = w' := by
  have NO := Lib.hid (none_any cb xb w h1)
  cases loose with
  | true =>
    clear hl
    go_enter Tryz.func20, Tryz.ntmps20
    go_wp2_with (go_at_call 29; refine NO.out.mono ?_; rintro e w' ⟨rfl, rfl⟩)
    go_ret
    exact ⟨rfl, rfl⟩
  | false =>
    have hl : n % 16 = 0 := hl.resolve_left (by decide)
    have hli : (n : Int) % 16 = 0 := by omega
    have hl1 : ¬ (n : Int) < 16 := by omega
    have hl2 : ¬ 4096 < (n : Int) := by omega
    clear hl
    go_enter Tryz.func20, Tryz.ntmps20
    go_wp2_with (go_at_call 29; refine NO.out.mono ?_; rintro e w' ⟨rfl, rfl⟩)
    go_ret
    exact ⟨rfl, rfl⟩
end Go.Proofs.YtcgjhjijfhgclaaGreatDoor.Tw

namespace Go.Proofs.YtcgjhjijfhgclaaGreatDoor.Tw
open Go.RowKit Go.Lib Go.Proofs.YtcgjhjijfhgclaaGreatDoor.Blk Go.Proofs.YtcgjhjijfhgclaaGreatDoor.Byts Go.Proofs.YtcgjhjijfhgclaaGreatDoor.Push

theorem sec_of {w : World} {B g n c : Nat} {F : Nat → Nat} (h : w.ownsRow B 5 1 (.slice (some ⟨g, 0, none⟩) n c) n (bl F n)) : Sec w g n F ∧ B ≤ g ∧ n ≤ c ∧ c ≤ 9223372036854775807 := by
  have hcell := fun j hj => h.cellAt j hj
  rcases h.2 with ⟨e, _⟩ | ⟨g', c', cur, e, h1, hg, n1, m1, hs, _⟩
  · cases e
  · cases e
    refine ⟨⟨cur, hg, by omega, fun i hi => ?_⟩, h1, n1, m1⟩
    have := (hcell i (by omega)).trans (bl_get F n i hi)
    rwa [cell_of_row w g i _ _ _ hg] at this

set_option maxRecDepth 100000 in
set_option maxHeartbeats 2000000 in
theorem clone_any (b off n c : Nat) (F : Nat → Nat) (w : World) (hn : 0 < n) (hbig : n ≤ 140737488347136) (h : BL w (some ⟨b, off, none⟩) n F) :
    Calls Tryz.prog 21 #[.slice (some ⟨b, off, none⟩) n c] w fun e w' => ∃ g cap, e = .returned (.slice (some ⟨g, 0, none⟩) n cap) ∧ Sec w' g n F ∧ w.heap.size ≤ g ∧ n ≤ cap ∧ cap ≤ 9223372036854775807 ∧ Below w.heap.size w w' := by
  obtain ⟨i0, hi, hz0, hz1, hz2⟩ := u8_info
  have hnil := fun (a : Option Addr) (n c : Nat) (w : World) => Lib.run_eql_slice_nil (P := Tryz.prog) w 22 5 a n c 0 0 Tryz.underlying22
  have A := Lib.hid h
  clear h
  go_enter Tryz.func21, Tryz.ntmps21
  go_wp2_with (at_builtin; refine wpList_append_own _ rfl _ _ 22 rfl w.heap.size 5 i0 (.int .u8 0) 1 1 Tryz.underlying22 hi hz0 hz1 hz2 rfl (by decide) _ _ _ rfl (World.ownsRow_made w #[] 0 (Nat.le_refl _) (Nat.zero_le _) rfl) ⟨b, off, none⟩ n c (bl F n) rfl ?qc1 ?qc2 ?qc3 ?qc4 ?qc5 ?qc6 ?_)
  case qc1 => rw [bl_len]; omega
  case qc2 =>
    intro j u hj
    have hjn : j < n := by
      have := (List.getElem?_eq_some_iff.1 hj).1
      rwa [bl_len] at this
    obtain ⟨g', o', e, hc⟩ := A.out j hjn
    cases e
    rw [Addr.add_lit]
    refine Lib.cell?_alloc_some _ ?_
    rw [hc, ← hj, bl_get _ _ _ hjn]
  case qc3 =>
    intro u hu
    simp only [bl, List.mem_map] at hu
    obtain ⟨x, _, rfl⟩ := hu
    rfl
  case qc4 => unfold maxLen; omega
  case qc5 => omega
  case qc6 => simp
  intro v' w1 hown hgrow hnn
  try simp only [Nat.zero_add, List.nil_append] at hown
  have HO := Lib.hid hown
  have HB := Lib.hid (((Below.refl _ w).alloc (Nat.le_refl _) _).grown hgrow (by simp) (by intro k hk; simp [Value.ownBlock] at hk; omega))
  clear hown hgrow hnn
  rcases HO.out.2 with ⟨_, h'⟩ | ⟨g, cap, cur, rfl, _⟩
  · omega
  obtain ⟨s1, s2, s3, s4⟩ := sec_of HO.out
  have S1 := Lib.hid s1
  clear s1
  go_wp2
  go_ret
  exact ⟨g, cap, rfl, S1.out, s2, s3, s4, HB.out⟩
end Go.Proofs.YtcgjhjijfhgclaaGreatDoor.Tw
