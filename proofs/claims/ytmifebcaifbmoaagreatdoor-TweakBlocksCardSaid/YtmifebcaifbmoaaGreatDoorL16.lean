/- Parts of the proof of TweakBlocks. Parts: tweak.fieldParts: the parts of a key of LRW. Lrw: tweak.asLRW: what seals and opens is laid into a cipher. Kin: tweak.kinds: the modes, in full. Find: tweak.find: the mode of a name. -/
import Derived.Test.YtmifebcaifbmoaaGreatDoorL00
import Derived.Test.YtmifebcaifbmoaaGreatDoorL15
import Derived.Test.YtmifebcaifbmoaaGreatDoorL13
import Derived.Test.YtmifebcaifbmoaaGreatDoorL12
import Derived.Lib.Agree
import Derived.Test.YtmifebcaifbmoaaGreatDoorL03
/- Parts -/
section
namespace Go.Proofs.YtmifebcaifbmoaaGreatDoor.Tw
open Go.RowKit Go.Lib Go.Proofs.YtmifebcaifbmoaaGreatDoor.Blk Go.Proofs.YtmifebcaifbmoaaGreatDoor.Aes Go.Proofs.YtmifebcaifbmoaaGreatDoor.Rj Go.Proofs.YtmifebcaifbmoaaGreatDoor.Poly

theorem cells_ne {w : World} {b c : Nat} {cs ds : Array Value} {T U : TypeId} {f g : Nat × Nat} (h1 : w.heap[b]? = some (.cells cs T f)) (h2 : w.heap[c]? = some (.cells ds U g)) (h : T ≠ U) : b ≠ c := fun e => by
  subst e
  rw [h1] at h2
  cases h2
  exact h rfl
/-- a key at hand stays where another block changes that begins with a text -/
theorem Sched.grown {key : Nat → Nat} {nk : Nat} {v : Value} {w w' : World} {cb : Nat} {cs : Array Value} {T : TypeId} {u : Value} (h : Sched key nk v w) (hc : w.heap[cb]? = some (.cells cs T (0, 0))) (hT1 : 149 ≠ T) (hT2 : 191 ≠ T) (h0 : cs[0]? = some u) (hu : ∀ x, u ≠ .int .u32 x) (hg : w.grownBy w' (some cb)) : Sched key nk v w' := by
  obtain ⟨a1, a2, tb, wb, bb, kb, a3, K⟩ := h
  have c0 : w.cell? ⟨cb, 0, none⟩ = some u := by rw [cell_of_row w cb 0 _ _ _ hc]; exact h0
  have nek : kb ≠ cb := cells_ne K.c hc hT1
  have net : tb ≠ cb := by
    obtain ⟨C, e, _⟩ := K.t
    exact cells_ne e hc hT2
  have new_ : ∀ b (k : Nat → Nat → Nat), w.cell? ⟨b, 0 + (4 * 0 + 0), none⟩ = some (.int .u32 (colW (k 0) 0 : Nat)) → b ≠ cb := fun b k e e2 => by
    subst e2
    rw [show 0 + (4 * 0 + 0) = 0 from rfl, c0] at e
    exact hu _ (Option.some.inj e)
  have cell : ∀ {b o : Nat} {u : Value}, b ≠ cb → w.cell? ⟨b, o, none⟩ = some u → w'.cell? ⟨b, o, none⟩ = some u := fun {b o u} hb he => by
    rw [← he]
    unfold World.cell?
    rw [hg.block b (Frame.block_lt he) (fun e => hb (Option.some.inj e))]
  have newb := new_ wb (rk nk key) (K.ws 0 0 (by omega) (by decide))
  have nebb := new_ bb (backK (rk nk key) (nk + 6)) (K.bs 0 0 (by omega) (by decide))
  refine ⟨a1, a2, tb, wb, bb, kb, a3, ?_, ?_, fun r c hr hc => cell newb (K.ws r c hr hc), fun r c hr hc => cell nebb (K.bs r c hr hc)⟩
  · rw [hg.block kb (Array.getElem?_eq_some_iff.1 K.c).1 (fun e => nek (Option.some.inj e))]
    exact K.c
  · obtain ⟨C, e, e2⟩ := K.t
    exact ⟨C, (hg.block tb (Array.getElem?_eq_some_iff.1 e).1 (fun e => net (Option.some.inj e))).trans e, e2⟩
/-- what stands in a core: its key, its field -/
structure CoreAt (cs : Array Value) (v : Value) (fld : Nat → Nat) : Prop where
  n : cs.size = 37
  nm : ∃ s, cs[0]? = some (.string s)
  main : cs[2]? = some v
  fld : ∀ i, i < 16 → cs[4 + i]? = some (.int .u8 (fld i : Nat))
  wip : cs[36]? = some (.bool false)
theorem patch_get (cur : Array Value) (k : Nat) (vs : List Value) (h : k + vs.length ≤ cur.size) (i : Nat) : (Tree.patch cur k vs)[i]? = if k ≤ i ∧ i < k + vs.length then vs[i - k]? else cur[i]? := by
  have ht : (cur.toList.take k).length = k := by simp; omega
  rw [← Array.getElem?_toList, Tree.patch, List.toList_toArray]
  by_cases h1 : i < k
  · rw [List.append_assoc, List.getElem?_append_left (by omega), List.getElem?_take, if_pos h1, Array.getElem?_toList, if_neg (by omega)]
  · by_cases h2 : i < k + vs.length
    · rw [List.append_assoc, List.getElem?_append_right (by omega), List.getElem?_append_left (by omega), ht, if_pos (by omega)]
    · rw [List.getElem?_append_right (by rw [List.length_append, ht]; omega), List.length_append, ht, List.getElem?_drop, if_neg (by omega), Array.getElem?_toList]
      congr 1
      omega
/-- bytes of a slice at their cells -/
def KeyB (w : World) (g off n : Nat) (key : Nat → Nat) : Prop := ∀ j, j < n → w.cell? ⟨g, off + j, none⟩ = some (.int .u8 (key j : Nat))

set_option maxRecDepth 100000 in
set_option maxHeartbeats 4000000 in
theorem fieldParts_any (key : Nat → Nat) (nk : Nat) (hnk : nk = 4 ∨ nk = 6 ∨ nk = 8) (hkey : Byt key (4 * nk)) (cb g off cap : Nat) (cs : Array Value) (w : World) (hcb : w.heap[cb]? = some (.cells cs 96 (0, 0))) (hn : cs.size = 37) (h0 : ∃ s, cs[0]? = some (.string s)) (hw : cs[36]? = some (.bool false))
    (hc : KeyB w g off (4 * nk + 16) key) (hgc : g ≠ cb) (hcap : 4 * nk + 16 ≤ cap) (hcm : cap ≤ 9223372036854775807) (hR : RconAt w) :
    Calls Tryz.prog 83 #[.pointer (some ⟨cb, 0, none⟩), .slice (some ⟨g, off, none⟩) (4 * nk + 16) cap] w fun e w' => e = .returned (.tuple #[]) ∧ ∃ cs' v, w'.heap[cb]? = some (.cells cs' 96 (0, 0)) ∧ CoreAt cs' v (fun i => key (4 * nk + i)) ∧ Sched key nk v w' ∧ w.grownBy w' (some cb) := by
  have SC := Lib.hid (scheduled_any key nk hnk hkey g off cap w (fun j hj => hc j (by omega)) (by omega) hcm hR)
  have HC := Lib.hid hc
  have HCB := Lib.hid hcb
  have H0 := Lib.hid h0
  have HW := Lib.hid hw
  clear hc hcb hR h0 hw hkey
  have hnk4 : nk ≤ 8 ∧ 4 ≤ nk := by omega
  clear hnk
  go_enter Tryz.func83, Tryz.ntmps83
  go_upto_region 0 with fail
  refine wp_region_lit ?_
  refine Step.p_move rfl _ rfl (.slice (some ⟨g, off, none⟩) (4 * nk + 16) cap) rfl ?_
  simp only [Act.put, sA9, sB9, sC9]
  refine Step.p_len rfl _ _ 5 rfl (_) ((4 * nk + 16)) (cap) rfl Tryz.underlying22 ?_
  simp only [Act.put, sA9, sB9, sC9]
  refine Step.p_val rfl (.int .i64 (4 * nk : Nat)) (by unfold execOp; go_simp; try (first | rfl | omega | exact (IntWalk.i64_in _ (by omega)).trans (by omega))) ?_
  simp only [Act.put, sA9, sB9, sC9]
  refine Step.p_assign rfl _ rfl (.int .i64 (4 * nk : Nat)) rfl ?_
  simp only [Act.put, sA9, sB9, sC9]
  refine wpList_nil ?_
  go_upto_region 1 with fail
  refine wp_region_lit ?_
  refine Step.p_move rfl _ rfl (.pointer (some ⟨cb, 0, none⟩)) rfl ?_
  simp only [Act.put, sA9, sB9, sC9]
  refine Step.p_move rfl _ rfl (.slice (some ⟨g, off, none⟩) (4 * nk + 16) cap) rfl ?_
  simp only [Act.put, sA9, sB9, sC9]
  refine Step.p_move rfl _ rfl (.int .i64 (4 * nk : Nat)) rfl ?_
  simp only [Act.put, sA9, sB9, sC9]
  refine Step.p_val rfl (.slice (some ⟨g, off, none⟩) (4 * nk) cap) (by unfold execOp; go_simp; rw [if_pos ⟨by omega, by omega⟩, show (4 * (nk : Int)).toNat = 4 * nk by omega]) ?_
  simp only [Act.put, sA9, sB9, sC9]
  refine Step.p_wp rfl (Step.w_callx 110 [.tmp 11] _ rfl Tryz.func110 (by kernel_rfl) rfl [.slice (some ⟨g, off, none⟩) (4 * nk) cap] rfl (SC.out) ?_)
  rintro e w2 ⟨v, rfl, hsd, hb⟩
  refine ⟨_, rfl, ?_⟩
  simp only [Act.put, sA9, sB9, sC9]
  have HS := Lib.hid hsd
  have HB := Lib.hid hb
  have HC2 := Lib.hid ((hb.block cb (Array.getElem?_eq_some_iff.1 HCB.out).1).trans HCB.out)
  clear hsd hb
  refine Step.p_val rfl (.pointer (some ⟨cb, 0, none⟩)) (by unfold execOp; go_simp) ?_
  simp only [Act.put, sA9, sB9, sC9]
  refine Tree.p_field rfl _ _ _ rfl (cb) (0) rfl Tryz.underlying96 rfl (sz := 1) (by kernel_rfl) (by decide) (2) rfl ?_
  simp only [Act.put, sA9, sB9, sC9]
  refine Step.p_storeV rfl 94 _ _ rfl cb 2 rfl v rfl ?hv ?h1 (by kernel_rfl) HC2.out (by omega) ?_
  case hv => obtain ⟨_, _, _, _, _, _, rfl, _⟩ := HS.out; intro cs e; cases e
  case h1 => obtain ⟨_, _, _, _, _, _, rfl, _⟩ := HS.out; rfl
  intro w3 hr3 hg3 hs3
  simp only [Act.put]
  refine wpList_nil ?_
  have HR3 := Lib.hid hr3
  have HG3 := Lib.hid hg3
  clear hr3 hg3 hs3
  go_upto_region 2 with fail
  refine wp_region_still_tail 7 (by kernel_rfl) (by kernel_rfl) ?_
  refine Still.s_move rfl _ rfl (.pointer (some ⟨cb, 0, none⟩)) rfl ?_
  simp only [Act.put, sA9, sB9, sC9]
  refine Still.s_val rfl (.pointer (some ⟨cb, 0, none⟩)) (by unfold execOp; go_simp) ?_
  simp only [Act.put, sA9, sB9, sC9]
  refine Still.s_val rfl (.pointer (some ⟨cb, 4, none⟩)) (by unfold execOp; simp only [Sem.run_bind, Sem.run_pure]; rfl) ?_
  simp only [Act.put, sA9, sB9, sC9]
  refine Still.s_val rfl (.slice (some ⟨cb, 4, none⟩) 16 16) (by unfold execOp; go_simp; try rfl) ?_
  simp only [Act.put, sA9, sB9, sC9]
  refine Still.s_move rfl _ rfl (.slice (some ⟨g, off, none⟩) (4 * nk + 16) cap) rfl ?_
  simp only [Act.put, sA9, sB9, sC9]
  refine Still.s_move rfl _ rfl (.int .i64 (4 * nk : Nat)) rfl ?_
  simp only [Act.put, sA9, sB9, sC9]
  refine Still.s_val rfl (.slice (some ⟨g, off + 4 * nk, none⟩) 16 (cap - 4 * nk)) (by unfold execOp; go_simp; rw [if_pos ⟨by omega, by omega⟩, show (4 * (nk : Int)).toNat = 4 * nk by omega, if_neg (by omega), show 4 * nk + 16 - 4 * nk = 16 by omega]) ?_
  simp only [Act.put, sA9, sB9, sC9]
  refine wpStill_nil ?_
  simp only [List.drop]
  have hcell : ∀ j, j < 16 → w3.cell? ⟨g, off + 4 * nk + j, none⟩ = some (.int .u8 (key (4 * nk + j) : Nat)) := fun j hj => by
    have e := HC.out (4 * nk + j) (by omega)
    have e2 := (HB.out.cell (p := ⟨g, off + (4 * nk + j), none⟩) (Frame.block_lt e)).trans e
    rw [← Nat.add_assoc] at e2
    rw [← e2]
    unfold World.cell?
    rw [HG3.out.block g (Frame.block_lt e2) (fun e => hgc (Option.some.inj e))]
  refine Step.p_wp rfl (w_copy 22 22 5 _ _ rfl Tryz.underlying22 (by kernel_rfl) cb 4 16 16 rfl ⟨g, off + 4 * nk, none⟩ 16 (cap - 4 * nk) rfl (Push.bl (fun i => key (4 * nk + i)) 16) (w := w3.drew) HR3.out (by rw [Push.bl_len]; rfl) ?_ (by rw [Push.bl_len]; simp; omega) ?_ ?_)
  · intro j v hj
    have hl : j < 16 := by have := (List.getElem?_eq_some_iff.1 hj).1; rwa [Push.bl_len] at this
    rw [Push.bl_get _ _ _ hl] at hj
    rw [Addr.add_mid, ← hj]
    exact hcell j hl
  · intro v hv
    obtain ⟨i, hi⟩ := List.mem_iff_getElem?.1 hv
    have hl : i < 16 := by have := (List.getElem?_eq_some_iff.1 hi).1; rwa [Push.bl_len] at this
    rw [Push.bl_get _ _ _ hl] at hi
    cases hi
    rfl
  simp only [Act.put, sA9, sB9, sC9]
  refine wpList_nil ?_
  have hA := setRow_heap w3.drew cb _ (Tree.patch (cs.setIfInBounds 2 v) 4 (Push.bl (fun i => key (4 * nk + i)) 16)) 96 (0, 0) HR3.out
  have g1 : w.grownBy w2 (some cb) := ⟨HB.out.os, HB.out.tape, HB.out.output, HB.out.size, fun k hk _ => HB.out.block k hk⟩
  have g3 : w3.grownBy (w3.drew.setRow cb (Tree.patch (cs.setIfInBounds 2 v) 4 (Push.bl (fun i => key (4 * nk + i)) 16))) (some cb) := ⟨rfl, rfl, rfl, by simp, fun b hb hne => setRow_other w3.drew cb b _ (fun e => hne (by rw [e]))⟩
  have hG : w.grownBy (w3.drew.setRow cb (Tree.patch (cs.setIfInBounds 2 v) 4 (Push.bl (fun i => key (4 * nk + i)) 16))) (some cb) := gb_trans (gb_trans g1 HG3.out) g3
  have hS : Sched key nk v (w3.drew.setRow cb (Tree.patch (cs.setIfInBounds 2 v) 4 (Push.bl (fun i => key (4 * nk + i)) 16))) := by
    obtain ⟨s, hs⟩ := H0.out
    exact (HS.out.grown HC2.out (by decide) (by decide) hs (fun x e => by cases e) HG3.out).grown (u := .string s) HR3.out (by decide) (by decide) (by simpa using hs) (fun x e => by cases e) g3
  generalize w3.drew.setRow cb (Tree.patch (cs.setIfInBounds 2 v) 4 (Push.bl (fun i => key (4 * nk + i)) 16)) = w6 at *
  have HA := Lib.hid hA
  have HG := Lib.hid hG
  have HSS := Lib.hid hS
  clear hA hG hS g1 g3
  go_wp2
  go_end0
  have hpg := fun i => patch_get (cs.setIfInBounds 2 v) 4 (Push.bl (fun i => key (4 * nk + i)) 16) (by rw [Push.bl_len]; simp; omega) i
  refine ⟨rfl, _, v, HA.out, ⟨?_, ?_, ?_, fun i hi => ?_, ?_⟩, HSS.out, HG.out⟩
  · rw [Tree.patch_size _ _ _ (by rw [Push.bl_len]; simp; omega)]
    simp [hn]
  · obtain ⟨s, hs⟩ := H0.out
    exact ⟨s, by rw [hpg, if_neg (by omega)]; simpa using hs⟩
  · rw [hpg, if_neg (by omega)]
    simp [hn]
  · rw [hpg, if_pos ⟨by omega, by rw [Push.bl_len]; omega⟩, show 4 + i - 4 = i by omega, Push.bl_get _ _ _ hi]
  · rw [hpg, Push.bl_len, if_neg (by omega)]
    simpa using HW.out
end Go.Proofs.YtmifebcaifbmoaaGreatDoor.Tw
end

/- Lrw -/
section
namespace Go.Proofs.YtmifebcaifbmoaaGreatDoor.Tw
open Go.RowKit Go.Lib Go.Proofs.YtmifebcaifbmoaaGreatDoor.Blk

/-- between's function, with its function f at hand -/
def BtwAt (f : FuncId) (v : Value) (w : World) : Prop := ∃ p, v = .func (.func 167) #[] #[.pointer (some ⟨p, 0, none⟩)] ∧ w.cell? ⟨p, 0, none⟩ = some (.func (.func f) #[] #[])
/-- what seals (opens) with LRW: the cipher and between's function behind it -/
structure LrwAt (f : FuncId) (cb : Nat) (v : Value) (w : World) : Prop where
  h : ∃ x d u, v = .func (.func 136) #[] #[.pointer (some ⟨x, 0, none⟩), .pointer (some ⟨d, 0, none⟩)] ∧ w.cell? ⟨x, 0, none⟩ = some (.pointer (some ⟨cb, 0, none⟩)) ∧ w.cell? ⟨d, 0, none⟩ = some u ∧ BtwAt f u w
/-- cells that are not of a block stay when it alone changes -/
theorem cell_gb {w w' : World} {c : Nat} (hg : w.grownBy w' (some c)) {b o : Nat} {u : Value} (hne : b ≠ c) (he : w.cell? ⟨b, o, none⟩ = some u) : w'.cell? ⟨b, o, none⟩ = some u := by
  rw [← he]
  unfold World.cell?
  rw [hg.block b (Frame.block_lt he) (fun e => hne (Option.some.inj e))]
theorem cell_bel {w w' : World} (hb : Below w.heap.size w w') {b o : Nat} {u : Value} (he : w.cell? ⟨b, o, none⟩ = some u) : w'.cell? ⟨b, o, none⟩ = some u := (hb.cell (p := ⟨b, o, none⟩) (Frame.block_lt he)).trans he

set_option maxHeartbeats 1000000 in
theorem each_any (p x1 : Nat) (w : World) : Calls Tryz.prog 135 #[.func (.func 167) #[] #[.pointer (some ⟨p, 0, none⟩)], .pointer (some ⟨x1, 0, none⟩)] w fun e w' => e = .returned (.func (.func 136) #[] #[.pointer (some ⟨x1, 0, none⟩), .pointer (some ⟨w.heap.size, 0, none⟩)]) ∧ w'.cell? ⟨w.heap.size, 0, none⟩ = some (.func (.func 167) #[] #[.pointer (some ⟨p, 0, none⟩)]) ∧ Below w.heap.size w w' := by
  have hmf : ∀ (fn : Fn) (first cap : Array Value) (w : World), (Instr.makeFunc fn first cap).run Tryz.prog w = .ok (.func fn first cap) w := fun _ _ _ _ => by simp [Instr.makeFunc]
  have HB := Lib.hid ((Below.refl w.heap.size w).alloc (Nat.le_refl _) (.cells #[.func (.func 167) #[] #[.pointer (some ⟨p, 0, none⟩)]] 170))
  have HN := Lib.hid (heap_alloc_new w (.cells #[.func (.func 167) #[] #[.pointer (some ⟨p, 0, none⟩)]] 170))
  go_enter Tryz.func135, Tryz.ntmps135
  go_wp2
  go_ret
  exact ⟨rfl, by rw [cell_of_row _ _ _ _ _ _ HN.out]; rfl, HB.out⟩

set_option maxRecDepth 100000 in
set_option maxHeartbeats 8000000 in
theorem asLRW_any (cb : Nat) (v0 v1 : Value) (w : World) (hcb : w.heap[cb]? = some (.cells #[v0, v1, .nilFunc, .nilFunc] 80 (0, 0))) :
    Calls Tryz.prog 82 #[.pointer (some ⟨cb, 0, none⟩)] w fun e w' => e = .returned (.tuple #[]) ∧ ∃ s u, w'.heap[cb]? = some (.cells #[v0, v1, s, u] 80 (0, 0)) ∧ LrwAt 106 cb s w' ∧ LrwAt 109 cb u w' ∧ w.grownBy w' (some cb) := by
  have hmf : ∀ (fn : Fn) (first cap : Array Value) (w : World), (Instr.makeFunc fn first cap).run Tryz.prog w = .ok (.func fn first cap) w := fun _ _ _ _ => by simp [Instr.makeFunc]
  have B1 := Lib.hid ((Below.refl w.heap.size w).alloc (Nat.le_refl _) (.cells #[.pointer (some ⟨cb, 0, none⟩)] 30))
  have X1 : Hid ((w.alloc (.cells #[.pointer (some ⟨cb, 0, none⟩)] 30)).cell? ⟨w.heap.size, 0, none⟩ = some (.pointer (some ⟨cb, 0, none⟩))) := Lib.hid (by rw [cell_of_row _ _ _ _ _ _ (heap_alloc_new w _)]; rfl)
  have hcl : cb < w.heap.size := (Array.getElem?_eq_some_iff.1 hcb).1
  have C1 := Lib.hid ((B1.out.block cb hcl).trans hcb)
  have BT := Lib.hid (fun f w => between_any f w)
  have EA := Lib.hid (fun p x w => each_any p x w)
  clear hcb
  go_enter Tryz.func82, Tryz.ntmps82
  go_upto_region 2 with fail
  generalize w.alloc (.cells #[.pointer (some ⟨cb, 0, none⟩)] 30) = w1 at *
  refine Step.begin_ (S := fun w' => w'.cell? ⟨w.heap.size, 0, none⟩ = some (.pointer (some ⟨cb, 0, none⟩))) 14 rfl (by kernel_rfl) X1.out ?_
  intro hS
  have SX := Lib.hid hS
  clear hS
  refine Tree.t_load1 (i := 0) rfl rfl (by kernel_rfl) (by kernel_rfl) (by kernel_rfl) SX.out _ _ rfl w.heap.size 0 rfl (.pointer (some ⟨cb, 0, none⟩)) (fun w' hw' => hw') Tryz.underlying30 rfl ?_
  simp only [Act.put, sA9, sB9, sC9]
  refine Tree.t_load1 (i := 1) rfl rfl (by kernel_rfl) (by kernel_rfl) (by kernel_rfl) SX.out _ _ rfl w.heap.size 0 rfl (.pointer (some ⟨cb, 0, none⟩)) (fun w' hw' => hw') Tryz.underlying30 rfl ?_
  simp only [Act.put, sA9, sB9, sC9]
  refine Step.t_move (i := 2) rfl rfl (by kernel_rfl) (by kernel_rfl) (by kernel_rfl) SX.out _ rfl (.func (.func 135) #[] #[.pointer (some ⟨w.heap.size, 0, none⟩)]) rfl ?_
  simp only [Act.put, sA9, sB9, sC9]
  refine Step.t_move (i := 5) rfl rfl (by kernel_rfl) (by kernel_rfl) (by kernel_rfl) SX.out _ rfl (.func (.func 135) #[] #[.pointer (some ⟨w.heap.size, 0, none⟩)]) rfl ?_
  simp only [Act.put, sA9, sB9, sC9]
  have P1x : Hid (w1.drew.cell? ⟨w.heap.size, 0, none⟩ = some (.pointer (some ⟨cb, 0, none⟩))) := Lib.hid X1.out
  have P1b := Lib.hid B1.out.drew
  have z1 := P1b.out.size
  have P1c : Hid (w1.drew.heap[cb]? = some (.cells #[v0, v1, .nilFunc, .nilFunc] 80 (0, 0))) := Lib.hid C1.out
  clear X1 B1 C1
  refine Step.t_one (i := 3) rfl rfl (by kernel_rfl) ?_
  refine Step.w_callx 133 _ _ rfl Tryz.func133 (by kernel_rfl) rfl [.func (.func 106) #[] #[]] rfl (BT.out 106 _) ?_
  rintro e w2 ⟨rfl, hc, hb⟩
  have P2x := Lib.hid (cell_bel hb P1x.out)
  have P2b := Lib.hid (P1b.out.trans (hb.mono P1b.out.size))
  have zw2 := P2b.out.size
  have P2c := Lib.hid ((hb.block cb (Nat.lt_of_lt_of_le hcl P1b.out.size)).trans P1c.out)
  have P2f := Lib.hid hc
  refine ⟨_, rfl, P2x.out, ?_⟩
  simp only [Act.put, sA9, sB9, sC9]
  clear hc hb P1x P1b P1c
  refine Step.t_one (i := 4) rfl rfl (by kernel_rfl) ?_
  refine Step.w_callv _ _ _ rfl 135 [.pointer (some ⟨w.heap.size, 0, none⟩)] rfl Tryz.func135 (by kernel_rfl) rfl [.func (.func 167) #[] #[.pointer (some ⟨w1.drew.heap.size, 0, none⟩)]] rfl (EA.out w1.drew.heap.size w.heap.size _) ?_
  rintro e w3 ⟨rfl, hc, hb⟩
  have P3x := Lib.hid (cell_bel hb P2x.out)
  have P3b := Lib.hid (P2b.out.trans (hb.mono P2b.out.size))
  have zw3 := P3b.out.size
  have P3c := Lib.hid ((hb.block cb (Nat.lt_of_lt_of_le hcl P2b.out.size)).trans P2c.out)
  have P3g := Lib.hid hc
  have P3f := Lib.hid (cell_bel hb P2f.out)
  refine ⟨_, rfl, P3x.out, ?_⟩
  simp only [Act.put, sA9, sB9, sC9]
  clear hc hb P2x P2b P2c P2f
  refine Step.t_one (i := 6) rfl rfl (by kernel_rfl) ?_
  refine Step.w_callx 133 _ _ rfl Tryz.func133 (by kernel_rfl) rfl [.func (.func 109) #[] #[]] rfl (BT.out 109 _) ?_
  rintro e w4 ⟨rfl, hc, hb⟩
  have P4x := Lib.hid (cell_bel hb P3x.out)
  have P4b := Lib.hid (P3b.out.trans (hb.mono P3b.out.size))
  have zw4 := P4b.out.size
  have P4c := Lib.hid ((hb.block cb (Nat.lt_of_lt_of_le hcl P3b.out.size)).trans P3c.out)
  have P4f := Lib.hid hc
  have P4f2 := Lib.hid (cell_bel hb P3f.out)
  have P4g2 := Lib.hid (cell_bel hb P3g.out)
  refine ⟨_, rfl, P4x.out, ?_⟩
  simp only [Act.put, sA9, sB9, sC9]
  clear hc hb P3x P3b P3c P3f P3g
  refine Step.t_one (i := 7) rfl rfl (by kernel_rfl) ?_
  refine Step.w_callv _ _ _ rfl 135 [.pointer (some ⟨w.heap.size, 0, none⟩)] rfl Tryz.func135 (by kernel_rfl) rfl [.func (.func 167) #[] #[.pointer (some ⟨w3.heap.size, 0, none⟩)]] rfl (EA.out w3.heap.size w.heap.size _) ?_
  rintro e w5 ⟨rfl, hc, hb⟩
  have P5x := Lib.hid (cell_bel hb P4x.out)
  have P5b := Lib.hid (P4b.out.trans (hb.mono P4b.out.size))
  have zw5 := P5b.out.size
  have P5c := Lib.hid ((hb.block cb (Nat.lt_of_lt_of_le hcl P4b.out.size)).trans P4c.out)
  have P5g := Lib.hid hc
  have P5f := Lib.hid (cell_bel hb P4f.out)
  have P5f2 := Lib.hid (cell_bel hb P4f2.out)
  have P5g2 := Lib.hid (cell_bel hb P4g2.out)
  refine ⟨_, rfl, P5x.out, ?_⟩
  simp only [Act.put, sA9, sB9, sC9]
  clear hc hb P4x P4b P4c P4f P4f2 P4g2
  refine Step.t_val (i := 8) rfl rfl (by kernel_rfl) (by kernel_rfl) (by kernel_rfl) P5x.out (.pointer (some ⟨cb, 0, none⟩)) (fun w' _ => by rfl) ?_
  simp only [Act.put, sA9, sB9, sC9]
  refine Tree.t_field (i := 9) rfl rfl (by kernel_rfl) (by kernel_rfl) (by kernel_rfl) P5x.out _ _ _ rfl cb 0 rfl Tryz.underlying80 rfl (sz := 1) (by kernel_rfl) (by decide) 2 rfl ?_
  simp only [Act.put, sA9, sB9, sC9]
  refine Step.t_one (i := 10) rfl rfl (by kernel_rfl) ?_
  refine Step.w_storeV 78 _ _ rfl cb 2 rfl (.func (.func 136) #[] #[.pointer (some ⟨w.heap.size, 0, none⟩), .pointer (some ⟨w2.heap.size, 0, none⟩)]) rfl (fun _ e => by cases e) rfl (by kernel_rfl) P5c.out (by simp) ?_
  intro w6 hr hg _
  refine ⟨cell_gb hg (by omega) P5x.out, ?_⟩
  simp only [Act.put]
  have P6x := Lib.hid (cell_gb hg (by omega) P5x.out)
  have P6c := Lib.hid hr
  have P6G := Lib.hid hg
  clear hr hg
  refine Step.t_val (i := 11) rfl rfl (by kernel_rfl) (by kernel_rfl) (by kernel_rfl) P6x.out (.pointer (some ⟨cb, 0, none⟩)) (fun w' _ => by rfl) ?_
  simp only [Act.put, sA9, sB9, sC9]
  refine Tree.t_field (i := 12) rfl rfl (by kernel_rfl) (by kernel_rfl) (by kernel_rfl) P6x.out _ _ _ rfl cb 0 rfl Tryz.underlying80 rfl (sz := 1) (by kernel_rfl) (by decide) 3 rfl ?_
  simp only [Act.put, sA9, sB9, sC9]
  refine Step.t_one (i := 13) rfl rfl (by kernel_rfl) ?_
  refine Step.w_storeV 78 _ _ rfl cb 3 rfl (.func (.func 136) #[] #[.pointer (some ⟨w.heap.size, 0, none⟩), .pointer (some ⟨w4.heap.size, 0, none⟩)]) rfl (fun _ e => by cases e) rfl (by kernel_rfl) P6c.out (by simp) ?_
  intro w7 hr hg _
  refine ⟨cell_gb hg (by omega) P6x.out, ?_⟩
  simp only [Act.put]
  have G7 := Lib.hid (gb_trans P6G.out hg)
  have HR := Lib.hid hr
  refine Step.t_end (by kernel_rfl) ?_
  have l1 := hcl
  have l2 := Frame.block_lt P5g2.out
  clear hr hg P6x
  go_wp2
  go_end0
  have keep : ∀ {b o : Nat} {u : Value}, b ≠ cb → w5.cell? ⟨b, o, none⟩ = some u → w7.cell? ⟨b, o, none⟩ = some u := fun hne h => cell_gb G7.out hne h
  have g0 : w.grownBy w7 (some cb) := gb_trans ⟨P5b.out.os, P5b.out.tape, P5b.out.output, P5b.out.size, fun k hk _ => P5b.out.block k hk⟩ G7.out
  exact ⟨rfl, _, _, HR.out, ⟨⟨_, _, _, rfl, keep (by omega) P5x.out, keep (by omega) P5g2.out, ⟨_, rfl, keep (by omega) P5f2.out⟩⟩⟩, ⟨⟨_, _, _, rfl, keep (by omega) P5x.out, keep (by omega) P5g.out, ⟨_, rfl, keep (by omega) P5f.out⟩⟩⟩, g0⟩
end Go.Proofs.YtmifebcaifbmoaaGreatDoor.Tw
end

/- Kin -/
section
namespace Go.Proofs.YtmifebcaifbmoaaGreatDoor.Tab
open Go.RowKit Go.Lib

theorem digestPart_any (fn : Fn) (f1 f2 : Array Value) (w : World) : Calls Tryz.prog 72 #[.func fn f1 f2] w fun e w' => e = .returned (.func (.func 116) #[] #[.pointer (some ⟨w.heap.size, 0, none⟩)]) ∧ w'.heap[w.heap.size]? = some (.cells #[.func fn f1 f2] 91 (0, 0)) ∧ Below w.heap.size w w' := by
  have hmf : ∀ (fn : Fn) (first cap : Array Value) (w : World), (Instr.makeFunc fn first cap).run Tryz.prog w = .ok (.func fn first cap) w := fun _ _ _ _ => by simp [Instr.makeFunc]
  have HB := Lib.hid ((Below.refl w.heap.size w).alloc (Nat.le_refl _) (.cells #[.func fn f1 f2] 91))
  have HN := Lib.hid (heap_alloc_new w (.cells #[.func fn f1 f2] 91))
  go_enter Tryz.func72, Tryz.ntmps72
  go_wp2
  go_ret
  exact ⟨rfl, HN.out, HB.out⟩

/-- a function's value -/
def fv (n : Nat) : Value := .func (.func n) #[] #[]
/-- mode k of the program, its seven parts; d: where digestPart keeps its first -/
def kindL (d k : Nat) : List Value :=
  ([[.string (nm 0), .bool false, .int .i64 0, .nilFunc, fv 63, fv 64, .bool false],
    [.string (nm 1), .bool false, .int .i64 0, fv 65, fv 66, fv 64, .bool false],
    [.string (nm 2), .bool false, .int .i64 0, fv 67, fv 66, fv 64, .bool false],
    [.string (nm 3), .bool false, .int .i64 0, fv 68, fv 66, fv 64, .bool false],
    [.string (nm 4), .bool false, .int .i64 0, fv 69, fv 66, fv 64, .bool false],
    [.string (nm 5), .bool false, .int .i64 0, fv 70, fv 66, fv 64, .bool false],
    [.string (nm 6), .bool false, .int .i64 0, fv 71, fv 66, .func (.func 116) #[] #[.pointer (some ⟨d, 0, none⟩)], .bool false],
    [.string (nm 7), .bool false, .int .i64 0, fv 73, fv 66, fv 64, .bool false],
    [.string (nm 8), .bool true, .int .i64 0, fv 73, fv 74, fv 75, .bool false],
    [.string (nm 9), .bool false, .int .i64 32, fv 76, fv 77, fv 78, .bool false],
    [.string (nm 10), .bool true, .int .i64 0, fv 67, fv 79, fv 75, .bool true],
    [.string (nm 11), .bool true, .int .i64 0, fv 68, fv 79, fv 75, .bool true],
    [.string (nm 12), .bool true, .int .i64 0, fv 69, fv 79, fv 75, .bool true],
    [.string (nm 13), .bool true, .int .i64 0, fv 80, fv 79, fv 81, .bool true],
    [.string (nm 14), .bool false, .int .i64 16, fv 70, fv 82, fv 83, .bool false],
    [.string (nm 15), .bool false, .int .i64 0, fv 67, fv 84, fv 64, .bool true],
    [.string (nm 16), .bool false, .int .i64 0, fv 68, fv 84, fv 64, .bool true]] : List (List Value)).getD k []
/-- the list of the modes, in block g -/
structure KindsAt (g d : Nat) (w : World) : Prop where
  c : ∀ k, k < 17 → ∀ c v, (kindL d k)[c]? = some v → w.cell? ⟨g, k * 7 + c, none⟩ = some v
  d : w.heap[d]? = some (.cells #[fv 64] 91 (0, 0))
theorem KindsAt.below {g d : Nat} {w w' : World} (h : KindsAt g d w) (hb : Below w.heap.size w w') : KindsAt g d w' :=
  ⟨fun k hk c v hv => cell_below hb (h.c k hk c v hv), (hb.block d (Array.getElem?_eq_some_iff.1 h.d).1).trans h.d⟩

set_option maxRecDepth 100000 in
set_option maxHeartbeats 4000000 in
theorem kinds_any (w : World) : Calls Tryz.prog 44 #[] w fun e w' => ∃ g d, e = .returned (.slice (some ⟨g, 0, none⟩) 17 17) ∧ w.heap.size ≤ g ∧ KindsAt g d w' ∧ Below w.heap.size w w' := by
  go_enter Tryz.func44, Tryz.ntmps44
  go_wp2_with (go_at_call 72; refine (digestPart_any _ _ _ w).mono ?_; rintro e w1 ⟨rfl, hd, hb⟩; have HB := Lib.hid hb; have HD := Lib.hid hd; clear hb hd)
  go_ret
  refine ⟨w1.heap.size, w.heap.size, rfl, HB.out.size, ⟨fun k hk c v hv => ?_, (heap_alloc_old w1 _ (Array.getElem?_eq_some_iff.1 HD.out).1).trans HD.out⟩, HB.out.alloc HB.out.size _⟩
  rw [cell_of_row _ _ _ _ _ _ (heap_alloc_new w1 _), ← hv]
  have hc : c < 7 := by
    rcases Nat.lt_or_ge c 7 with h | h
    · exact h
    · have : (kindL w.heap.size k).length = 7 := by
        match k, hk with
        | 0, _ | 1, _ | 2, _ | 3, _ | 4, _ | 5, _ | 6, _ | 7, _ | 8, _ | 9, _ | 10, _ | 11, _ | 12, _ | 13, _ | 14, _ | 15, _ | 16, _ => rfl
        | k + 17, hk => exact absurd hk (by omega)
      rw [List.getElem?_eq_none (by omega)] at hv
      cases hv
  clear hv
  match k, hk with
  | 0, _ | 1, _ | 2, _ | 3, _ | 4, _ | 5, _ | 6, _ | 7, _ | 8, _ | 9, _ | 10, _ | 11, _ | 12, _ | 13, _ | 14, _ | 15, _ | 16, _ =>
    match c, hc with
    | 0, _ | 1, _ | 2, _ | 3, _ | 4, _ | 5, _ | 6, _ => rfl
    | c + 7, hc => exact absurd hc (by omega)
  | k + 17, hk => exact absurd hk (by omega)
end Go.Proofs.YtmifebcaifbmoaaGreatDoor.Tab
end

/- Find -/
section
namespace Go.Proofs.YtmifebcaifbmoaaGreatDoor.Tab
open Go.RowKit Go.Lib

theorem kindL_len (d : Nat) : ∀ k, k < 17 → (kindL d k).length = 7
  | 0, _ | 1, _ | 2, _ | 3, _ | 4, _ | 5, _ | 6, _ | 7, _ | 8, _ | 9, _ | 10, _ | 11, _ | 12, _ | 13, _ | 14, _ | 15, _ | 16, _ => rfl
  | k + 17, hk => absurd hk (by omega)
theorem kindL_0 (d : Nat) : ∀ k, k < 17 → (kindL d k)[0]? = some (.string (nm k))
  | 0, _ | 1, _ | 2, _ | 3, _ | 4, _ | 5, _ | 6, _ | 7, _ | 8, _ | 9, _ | 10, _ | 11, _ | 12, _ | 13, _ | 14, _ | 15, _ | 16, _ => rfl
  | k + 17, hk => absurd hk (by omega)
theorem nm_inj : ∀ i, i < 17 → ∀ k, k < 17 → nm i = nm k → i = k := by
  have h : ∀ i, i < 17 → ∀ k, k < 17 → (nm i).data.toList = (nm k).data.toList → i = k := by decide +kernel
  exact fun i hi k hk e => h i hi k hk (by rw [e])

theorem bytes_ne {a b : ByteArray} (h : ¬ a = b) : (a.toList == b.toList) = false := by
  rw [ByteArray.toList_eq, ByteArray.toList_eq]
  refine beq_eq_false_iff_ne.2 fun e => h ?_
  cases a; cases b
  simp only [ByteArray.mk.injEq]
  exact Array.toList_inj.1 e

set_option maxHeartbeats 1000000 in
theorem find1_any (a0 s : ByteArray) (cs : Array Value) (h0 : cs[0]? = some (.string a0)) (mb : Nat) (w : World) (hc : w.cell? ⟨mb, 0, none⟩ = some (.string s)) :
    Calls Tryz.prog 62 #[.agg cs, .pointer (some ⟨mb, 0, none⟩)] w fun e w' => e = .returned (.bool (a0.toList == s.toList)) ∧ Below w.heap.size w w' := by
  have B1 := Lib.hid ((Below.refl w.heap.size w).alloc (Nat.le_refl _) (.cells cs 93))
  have C0 : Hid ((w.alloc (.cells cs 93)).cell? ⟨w.heap.size, 0, none⟩ = some (.string a0)) := Lib.hid (by rw [cell_of_row _ _ _ _ _ _ (heap_alloc_new w _)]; exact h0)
  have C1 : Hid ((w.alloc (.cells cs 93)).cell? ⟨mb, 0, none⟩ = some (.string s)) := Lib.hid (cell_below ((Below.refl _ _).alloc (Nat.le_refl _) _) hc)
  clear h0 hc
  go_enter Tryz.func62, Tryz.ntmps62
  go_upto_region 0 with fail
  refine wp_region_lit ?_
  refine Seg.p_boxA rfl 93 _ rfl cs rfl ?_
  simp only [Act.put, sA9, sB9, sC9]
  generalize w.alloc (.cells cs 93) = w1 at *
  refine Step.p_assign rfl _ rfl (.bool false) rfl ?_
  simp only [Act.put, sA9, sB9, sC9]
  refine wpList_nil ?_
  have c0 := C0.out
  have c1 := C1.out
  go_wp2
  go_ret
  exact ⟨rfl, B1.out⟩

set_option maxRecDepth 100000 in
set_option maxHeartbeats 4000000 in
theorem indexFunc_any (g d mb j : Nat) (s : ByteArray) (w : World) (hk : KindsAt g d w) (hc : w.cell? ⟨mb, 0, none⟩ = some (.string s)) (hj : j ≤ 17) (hne : ∀ i, i < j → ¬ nm i = s) (hlast : j < 17 → nm j = s) :
    Calls Tryz.prog 61 #[.slice (some ⟨g, 0, none⟩) 17 17, .func (.func 62) #[] #[.pointer (some ⟨mb, 0, none⟩)]] w fun e w' => e = .returned (.int .i64 (if j < 17 then (j : Int) else -1)) ∧ Below w.heap.size w w' := by
  have HK := Lib.hid hk
  have HC := Lib.hid hc
  have HN := Lib.hid hne
  have HL := Lib.hid hlast
  clear hk hc hne hlast
  go_enter Tryz.func61, Tryz.ntmps61
  go_wp2
  go_loopw [8] (fun i wr => ∃ k : Nat, k ≤ j ∧ i = .int .i64 k ∧ Below w.heap.size w wr) (fun i _ => 17 - (RowKit.intOf i).toNat)
  case atStart => exact ⟨0, by omega, rfl, Below.refl _ _⟩
  case round =>
    obtain ⟨k, hk, rfl, hb⟩ := hrel
    have HB := Lib.hid hb
    clear hb
    by_cases hlt : k < 17
    · have HR : Hid (wr.rangeAt g (0 + k * 7) (kindL d k)) := Lib.hid fun c v hv => by rw [Nat.zero_add]; exact (HK.out.below HB.out).c k hlt c v hv
      have F1 := Lib.hid (find1_any (nm k) s (kindL d k).toArray (by rw [List.getElem?_toArray]; exact kindL_0 d k hlt) mb wr (cell_below HB.out HC.out))
      have LL : Hid ((Tryz.prog.info? 93).map (·.size) = some (kindL d k).length) := Lib.hid (by rw [kindL_len d k hlt]; kernel_rfl)
      by_cases hkj : k = j
      · subst hkj
        have he : nm k = s := HL.out hlt
        rw [he, beq_self_eq_true] at F1
        go_upto_region 4 with fail
        refine wp_region_lit ?_
        refine Step.p_move rfl _ rfl (.func (.func 62) #[] #[.pointer (some ⟨mb, 0, none⟩)]) rfl ?_
        simp only [Act.put, sA9, sB9, sC9]
        refine Step.p_move rfl _ rfl (.slice (some ⟨g, 0, none⟩) 17 17) rfl ?_
        simp only [Act.put, sA9, sB9, sC9]
        refine Step.p_move rfl _ rfl (.int .i64 k) rfl ?_
        simp only [Act.put, sA9, sB9, sC9]
        refine Step.p_index rfl _ 93 _ _ rfl g 0 17 17 rfl k rfl hlt 7 Tryz.underlying87 (by kernel_rfl) ?_
        simp only [Act.put, sA9, sB9, sC9]
        refine Tree.p_loadmid rfl _ _ rfl g (0 + k * 7) rfl (kindL d k) HR.out Tryz.underlying93 rfl LL.out ?_
        simp only [Act.put, sA9, sB9, sC9]
        clear HR LL
        go_wp2_with (go_at_call 62; refine F1.out.mono ?_; rintro e w2 ⟨rfl, hb2⟩)
        go_ret
        exact ⟨by first | rfl | (rw [if_pos hlt]; rfl), HB.out.trans (hb2.mono HB.out.size)⟩
      · have he : ¬ nm k = s := HN.out k (by omega)
        rw [show ((nm k).toList == s.toList) = false from bytes_ne he] at F1
        go_upto_region 4 with fail
        refine wp_region_lit ?_
        refine Step.p_move rfl _ rfl (.func (.func 62) #[] #[.pointer (some ⟨mb, 0, none⟩)]) rfl ?_
        simp only [Act.put, sA9, sB9, sC9]
        refine Step.p_move rfl _ rfl (.slice (some ⟨g, 0, none⟩) 17 17) rfl ?_
        simp only [Act.put, sA9, sB9, sC9]
        refine Step.p_move rfl _ rfl (.int .i64 k) rfl ?_
        simp only [Act.put, sA9, sB9, sC9]
        refine Step.p_index rfl _ 93 _ _ rfl g 0 17 17 rfl k rfl hlt 7 Tryz.underlying87 (by kernel_rfl) ?_
        simp only [Act.put, sA9, sB9, sC9]
        refine Tree.p_loadmid rfl _ _ rfl g (0 + k * 7) rfl (kindL d k) HR.out Tryz.underlying93 rfl LL.out ?_
        simp only [Act.put, sA9, sB9, sC9]
        clear HR LL
        go_wp2_with (go_at_call 62; refine F1.out.mono ?_; rintro e w2 ⟨rfl, hb2⟩)
        go_roundw
        case rel => exact ⟨k + 1, by omega, rfl, HB.out.trans (hb2.mono HB.out.size)⟩
        case measure => simp [RowKit.intOf]; omega
    · obtain rfl : k = 17 := by omega
      obtain rfl : j = 17 := by omega
      go_wp2
      go_ret
      exact ⟨rfl, HB.out⟩
end Go.Proofs.YtmifebcaifbmoaaGreatDoor.Tab
end
