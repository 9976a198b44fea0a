/- Parts of the proof of TweakBlocks. Parts1: tweak: onePart, twoParts: keys laid into a core. Builds: tweak: asECB, asCBC, asXTS: what they lay into a cipher. -/
import Derived.Test.YtmifebcaifbmoaaGreatDoorL00
import Derived.Test.YtmifebcaifbmoaaGreatDoorL27
/- Parts1 -/
section
namespace Go.Proofs.YtmifebcaifbmoaaGreatDoor.G
open Go.RowKit Go.Lib Go.Proofs.YtmifebcaifbmoaaGreatDoor.Blk Go.Proofs.YtmifebcaifbmoaaGreatDoor.Aes Go.Proofs.YtmifebcaifbmoaaGreatDoor.Rj Go.Proofs.YtmifebcaifbmoaaGreatDoor.Poly Go.Proofs.YtmifebcaifbmoaaGreatDoor.Field Go.Proofs.YtmifebcaifbmoaaGreatDoor.Tab Go.Proofs.YtmifebcaifbmoaaGreatDoor.Tw Go.Proofs.YtmifebcaifbmoaaGreatDoor.RS

/-- a core under way -/
structure CZ (xb : Nat) (cs : Array Value) (w w' : World) : Prop where
  hc : w'.heap[xb]? = some (.cells cs 96 (0, 0))
  gb : w.grownBy w' (some xb)
theorem CZ.start {xb : Nat} {cs : Array Value} {w : World} (h : w.heap[xb]? = some (.cells cs 96 (0, 0))) : CZ xb cs w w := ⟨h, gb_refl w _⟩
theorem CZ.bel {xb : Nat} {cs : Array Value} {w w1 w2 : World} (h : CZ xb cs w w1) (hb : Below w1.heap.size w1 w2) : CZ xb cs w w2 := ⟨(hb.block xb (Array.getElem?_eq_some_iff.1 h.hc).1).trans h.hc, gb_bel h.gb hb⟩
theorem CZ.drew {xb : Nat} {cs : Array Value} {w w1 : World} (h : CZ xb cs w w1) : CZ xb cs w w1.drew := h.bel (Below.refl _ _).drew
theorem CZ.put {xb : Nat} {cs cs2 : Array Value} {w w1 w2 : World} (h : CZ xb cs w w1) (hr : w2.heap[xb]? = some (.cells cs2 96 (0, 0))) (hg : w1.grownBy w2 (some xb)) : CZ xb cs2 w w2 := ⟨hr, gb_trans h.gb hg⟩
/-- keys stay where a core changes -/
theorem CZ.kq {xb : Nat} {cs : Array Value} {w w1 w2 : World} (h : CZ xb cs w w1) (h0 : ∃ s, cs[0]? = some (.string s)) (hg : w1.grownBy w2 (some xb)) : Kq w1 w2 := by
  obtain ⟨s, hs⟩ := h0
  exact Kq.of_gb h.hc (by decide) (by decide) (fun z e => by rw [hs] at e; cases e) hg

theorem Sched.ne {key : Nat → Nat} {nk : Nat} {v : Value} {w : World} (h : Hid (Sched key nk v w)) : ∀ cs, v ≠ .agg cs := by
  obtain ⟨_, _, _, _, _, _, rfl, _⟩ := h.out
  intro cs e
  cases e
theorem Sched.one {key : Nat → Nat} {nk : Nat} {v : Value} {w : World} (h : Hid (Sched key nk v w)) : v.oneCell' = true := by
  obtain ⟨_, _, _, _, _, _, rfl, _⟩ := h.out
  rfl
set_option maxRecDepth 100000 in
set_option maxHeartbeats 4000000 in
theorem onePart_any (key : Nat → Nat) (nk : Nat) (hnk : nk = 4 ∨ nk = 6 ∨ nk = 8) (hkey : Byt key (4 * nk)) (xb g off cap : Nat) (cs : Array Value) (w : World) (hcb : w.heap[xb]? = some (.cells cs 96 (0, 0))) (hsz : cs.size = 37) (h0 : ∃ s, cs[0]? = some (.string s))
    (hc : KeyB w g off (4 * nk) key) (hcap : 4 * nk ≤ cap) (hcm : cap ≤ 9223372036854775807) (hR : RconAt w) :
    Calls Tryz.prog 64 #[.pointer (some ⟨xb, 0, none⟩), .slice (some ⟨g, off, none⟩) (4 * nk) cap] w fun e w' => e = .returned (.tuple #[]) ∧ (∃ v, w'.heap[xb]? = some (.cells (cs.setIfInBounds 2 v) 96 (0, 0)) ∧ Sched key nk v w') ∧ w.grownBy w' (some xb) := by
  have SC := Lib.hid (scheduled_any key nk hnk hkey g off cap w hc hcap hcm hR)
  have Z0 := Lib.hid (CZ.start hcb)
  clear hc hcb hR hkey hnk
  go_enter Tryz.func64, Tryz.ntmps64
  go_upto_region 0 with fail
  refine wp_region_lit ?_
  refine Step.p_move rfl _ rfl (.pointer (some ⟨xb, 0, none⟩)) rfl ?_
  simp only [Act.put, sA9, sB9, sC9]
  refine Step.p_move rfl _ rfl (.slice (some ⟨g, off, none⟩) (4 * nk) cap) rfl ?_
  simp only [Act.put, sA9, sB9, sC9]
  refine Step.p_wp rfl (Step.w_callx 110 _ _ rfl Tryz.func110 (by kernel_rfl) rfl [.slice (some ⟨g, off, none⟩) (4 * nk) cap] rfl (SC.out) ?_)
  rintro e w1 ⟨v, rfl, hsd, hb⟩
  have K1 := Lib.hid hsd
  have Z2 := Lib.hid (Z0.out.bel hb)
  clear hb hsd Z0
  refine ⟨_, rfl, ?_⟩
  simp only [Act.put, sA9, sB9, sC9]
  refine Step.p_val rfl (.pointer (some ⟨xb, 0, none⟩)) (by unfold execOp; go_simp; try rfl) ?_
  simp only [Act.put, sA9, sB9, sC9]
  refine Tree.p_field rfl _ _ _ rfl (xb) (0) rfl Tryz.underlying96 rfl (sz := 1) (by kernel_rfl) (by decide) (2) rfl ?_
  simp only [Act.put, sA9, sB9, sC9]
  refine Step.p_storeV rfl 94 _ _ rfl xb 2 rfl v rfl (Sched.ne K1) (Sched.one K1) (by kernel_rfl) Z2.out.hc (by first | omega | (simp; omega)) ?_
  intro w3 hr hg2 _
  have Z4 := Lib.hid (Z2.out.put hr hg2)
  have K2 := Lib.hid (K1.out.kq (Z2.out.kq h0 hg2))
  clear K1
  clear hr hg2 Z2
  simp only [Act.put]
  refine wpList_nil ?_
  go_wp2
  go_end0
  exact ⟨rfl, ⟨v, Z4.out.hc, K2.out⟩, Z4.out.gb⟩
set_option maxRecDepth 100000 in
set_option maxHeartbeats 4000000 in
theorem twoParts_any (key : Nat → Nat) (nk : Nat) (hnk : nk = 4 ∨ nk = 6 ∨ nk = 8) (hkey : Byt key (8 * nk)) (xb g off cap : Nat) (cs : Array Value) (w : World) (hcb : w.heap[xb]? = some (.cells cs 96 (0, 0))) (hsz : cs.size = 37) (h0 : ∃ s, cs[0]? = some (.string s))
    (hc : KeyB w g off (8 * nk) key) (hgx : g ≠ xb) (hcap : 8 * nk ≤ cap) (hcm : cap ≤ 9223372036854775807) (hR : RconAt w) (hrx : 2 ≠ xb) :
    Calls Tryz.prog 75 #[.pointer (some ⟨xb, 0, none⟩), .slice (some ⟨g, off, none⟩) (8 * nk) cap] w fun e w' => e = .returned (.tuple #[]) ∧ (∃ v z, w'.heap[xb]? = some (.cells ((cs.setIfInBounds 2 v).setIfInBounds 3 z) 96 (0, 0)) ∧ Sched key nk v w' ∧ Sched (fun i => key (4 * nk + i)) nk z w') ∧ w.grownBy w' (some xb) := by
  have hnk8 : 4 ≤ nk ∧ nk ≤ 8 := by omega
  have HH : Hid ((8 * (nk : Int)).tdiv 2 = 4 * (nk : Int)) := Lib.hid (by rw [Int.tdiv_eq_ediv_of_nonneg (by omega)]; omega)
  have CK : ∀ b o v w', b ≠ xb → w.grownBy w' (some xb) → w.cell? ⟨b, o, none⟩ = some v → w'.cell? ⟨b, o, none⟩ = some v := fun b o v w' hne hg h => cell_gb hg hne h
  have SC := Lib.hid (fun w' (h : w.grownBy w' (some xb)) => scheduled_any key nk hnk (fun i hi => hkey i (by omega)) g off cap w' (fun j hj => CK _ _ _ w' hgx h (hc j (by omega))) (by omega) hcm (fun i hi => CK _ _ _ w' hrx h (hR i hi)))
  have SD := Lib.hid (fun w' (h : w.grownBy w' (some xb)) => scheduled_any (fun i => key (4 * nk + i)) nk hnk (fun i hi => hkey _ (by omega)) g (off + 4 * nk) (cap - 4 * nk) w' (fun j hj => by rw [Nat.add_assoc]; exact CK _ _ _ w' hgx h (hc (4 * nk + j) (by omega))) (by omega) (by omega) (fun i hi => CK _ _ _ w' hrx h (hR i hi)))
  have Z0 := Lib.hid (CZ.start hcb)
  clear hc hcb hR hkey hnk CK
  go_enter Tryz.func75, Tryz.ntmps75
  go_upto_region 0 with fail
  refine wp_region_lit ?_
  refine Step.p_move rfl _ rfl (.slice (some ⟨g, off, none⟩) (8 * nk) cap) rfl ?_
  simp only [Act.put, sA9, sB9, sC9]
  refine Step.p_len rfl _ _ 5 rfl ((some ⟨g, off, none⟩)) ((8 * nk)) (cap) rfl Tryz.underlying22 ?_
  simp only [Act.put, sA9, sB9, sC9]
  refine Step.p_val rfl (.int .i64 (4 * nk : Nat)) (by unfold execOp; have := HH.out; go_simp; try (first | rfl | omega | exact (IntWalk.i64_in _ (by omega)).trans (by omega) | (rw [HH.out]; exact (IntWalk.i64_in _ (by omega)).trans (by omega)))) ?_
  simp only [Act.put, sA9, sB9, sC9]
  refine Step.p_assign rfl _ rfl (.int .i64 (4 * nk : Nat)) rfl ?_
  simp only [Act.put, sA9, sB9, sC9]
  refine wpList_nil ?_
  go_upto_region 1 with fail
  refine Step.begin_ (S := fun w' => w.grownBy w' (some xb)) 16 rfl (by kernel_rfl) Z0.out.drew.gb ?_
  intro hSS
  clear hSS
  have Z1 := Lib.hid Z0.out.drew
  clear Z0
  refine Step.t_move (i := 0) rfl rfl (by kernel_rfl) (by kernel_rfl) (by kernel_rfl) Z1.out.gb _ rfl (.pointer (some ⟨xb, 0, none⟩)) rfl ?_
  simp only [Act.put, sA9, sB9, sC9]
  refine Step.t_move (i := 1) rfl rfl (by kernel_rfl) (by kernel_rfl) (by kernel_rfl) Z1.out.gb _ rfl (.pointer (some ⟨xb, 0, none⟩)) rfl ?_
  simp only [Act.put, sA9, sB9, sC9]
  refine Step.t_move (i := 2) rfl rfl (by kernel_rfl) (by kernel_rfl) (by kernel_rfl) Z1.out.gb _ rfl (.slice (some ⟨g, off, none⟩) (8 * nk) cap) rfl ?_
  simp only [Act.put, sA9, sB9, sC9]
  refine Step.t_move (i := 3) rfl rfl (by kernel_rfl) (by kernel_rfl) (by kernel_rfl) Z1.out.gb _ rfl (.int .i64 (4 * nk : Nat)) rfl ?_
  simp only [Act.put, sA9, sB9, sC9]
  refine Step.t_move (i := 6) rfl rfl (by kernel_rfl) (by kernel_rfl) (by kernel_rfl) Z1.out.gb _ rfl (.slice (some ⟨g, off, none⟩) (8 * nk) cap) rfl ?_
  simp only [Act.put, sA9, sB9, sC9]
  refine Step.t_move (i := 7) rfl rfl (by kernel_rfl) (by kernel_rfl) (by kernel_rfl) Z1.out.gb _ rfl (.int .i64 (4 * nk : Nat)) rfl ?_
  simp only [Act.put, sA9, sB9, sC9]
  refine Step.t_val (i := 4) rfl rfl (by kernel_rfl) (by kernel_rfl) (by kernel_rfl) Z1.out.gb (.slice (some ⟨g, off, none⟩) (4 * nk) cap) (fun w' _ => by unfold execOp; go_simp; rw [if_pos ⟨by omega, by omega⟩, show (4 * (nk : Int)).toNat = 4 * nk by omega]) ?_
  simp only [Act.put, sA9, sB9, sC9]
  refine Step.t_val (i := 8) rfl rfl (by kernel_rfl) (by kernel_rfl) (by kernel_rfl) Z1.out.gb (.slice (some ⟨g, off + 4 * nk, none⟩) (4 * nk) (cap - 4 * nk)) (fun w' _ => by unfold execOp; go_simp; rw [if_pos ⟨by omega, by omega⟩, show (4 * (nk : Int)).toNat = 4 * nk by omega, if_neg (by omega), show 8 * nk - 4 * nk = 4 * nk by omega]) ?_
  simp only [Act.put, sA9, sB9, sC9]
  refine Step.t_one (i := 5) rfl rfl (by kernel_rfl) ?_
  refine Step.w_callx 110 _ _ rfl Tryz.func110 (by kernel_rfl) rfl [.slice (some ⟨g, off, none⟩) (4 * nk) cap] rfl (SC.out _ Z1.out.gb) ?_
  rintro e w2 ⟨v, rfl, hsd, hb⟩
  have K1 := Lib.hid hsd
  have Z3 := Lib.hid (Z1.out.bel hb)
  clear hb hsd Z1
  refine ⟨_, rfl, Z3.out.gb, ?_⟩
  simp only [Act.put, sA9, sB9, sC9]
  refine Step.t_one (i := 9) rfl rfl (by kernel_rfl) ?_
  refine Step.w_callx 110 _ _ rfl Tryz.func110 (by kernel_rfl) rfl [.slice (some ⟨g, off + 4 * nk, none⟩) (4 * nk) (cap - 4 * nk)] rfl (SD.out _ Z3.out.gb) ?_
  rintro e w4 ⟨z, rfl, hsd, hb⟩
  have L1 := Lib.hid hsd
  have Z5 := Lib.hid (Z3.out.bel hb)
  have K2 := Lib.hid (K1.out.kq (Kq.of_below hb))
  clear K1
  clear hb hsd Z3
  refine ⟨_, rfl, Z5.out.gb, ?_⟩
  simp only [Act.put, sA9, sB9, sC9]
  refine Step.t_val (i := 10) rfl rfl (by kernel_rfl) (by kernel_rfl) (by kernel_rfl) Z5.out.gb (.pointer (some ⟨xb, 0, none⟩)) (fun w' _ => by rfl) ?_
  simp only [Act.put, sA9, sB9, sC9]
  refine Tree.t_field (i := 11) rfl rfl (by kernel_rfl) (by kernel_rfl) (by kernel_rfl) Z5.out.gb _ _ _ rfl (xb) (0) rfl Tryz.underlying96 rfl (sz := 1) (by kernel_rfl) (by decide) (2) rfl ?_
  simp only [Act.put, sA9, sB9, sC9]
  refine Step.t_one (i := 12) rfl rfl (by kernel_rfl) ?_
  refine Step.w_storeV 94 _ _ rfl xb 2 rfl v rfl (Sched.ne K2) (Sched.one K2) (by kernel_rfl) Z5.out.hc (by first | omega | (simp; omega)) ?_
  intro w6 hr hg2 _
  have Z7 := Lib.hid (Z5.out.put hr hg2)
  have K3 := Lib.hid (K2.out.kq (Z5.out.kq (by simpa using h0) hg2))
  clear K2
  have L2 := Lib.hid (L1.out.kq (Z5.out.kq (by simpa using h0) hg2))
  clear L1
  clear hr hg2 Z5
  refine ⟨Z7.out.gb, ?_⟩
  simp only [Act.put]
  refine Step.t_val (i := 13) rfl rfl (by kernel_rfl) (by kernel_rfl) (by kernel_rfl) Z7.out.gb (.pointer (some ⟨xb, 0, none⟩)) (fun w' _ => by rfl) ?_
  simp only [Act.put, sA9, sB9, sC9]
  refine Tree.t_field (i := 14) rfl rfl (by kernel_rfl) (by kernel_rfl) (by kernel_rfl) Z7.out.gb _ _ _ rfl (xb) (0) rfl Tryz.underlying96 rfl (sz := 1) (by kernel_rfl) (by decide) (3) rfl ?_
  simp only [Act.put, sA9, sB9, sC9]
  refine Step.t_one (i := 15) rfl rfl (by kernel_rfl) ?_
  refine Step.w_storeV 94 _ _ rfl xb 3 rfl z rfl (Sched.ne L2) (Sched.one L2) (by kernel_rfl) Z7.out.hc (by first | omega | (simp; omega)) ?_
  intro w8 hr hg2 _
  have Z9 := Lib.hid (Z7.out.put hr hg2)
  have K4 := Lib.hid (K3.out.kq (Z7.out.kq (by simpa using h0) hg2))
  clear K3
  have L3 := Lib.hid (L2.out.kq (Z7.out.kq (by simpa using h0) hg2))
  clear L2
  clear hr hg2 Z7
  refine ⟨Z9.out.gb, ?_⟩
  simp only [Act.put]
  refine Step.t_end (by kernel_rfl) ?_
  go_wp2
  go_end0
  exact ⟨rfl, ⟨v, z, Z9.out.hc, K4.out, L3.out⟩, Z9.out.gb⟩
end Go.Proofs.YtmifebcaifbmoaaGreatDoor.G
end

/- Builds -/
section
namespace Go.Proofs.YtmifebcaifbmoaaGreatDoor.G
open Go.RowKit Go.Lib Go.Proofs.YtmifebcaifbmoaaGreatDoor.Blk Go.Proofs.YtmifebcaifbmoaaGreatDoor.Aes Go.Proofs.YtmifebcaifbmoaaGreatDoor.Rj Go.Proofs.YtmifebcaifbmoaaGreatDoor.Poly Go.Proofs.YtmifebcaifbmoaaGreatDoor.Field Go.Proofs.YtmifebcaifbmoaaGreatDoor.Tab Go.Proofs.YtmifebcaifbmoaaGreatDoor.Tw Go.Proofs.YtmifebcaifbmoaaGreatDoor.RS
/-- a cipher's block under way, and the box of its pointer -/
structure BZ (cb x : Nat) (C : Array Value) (w w' : World) : Prop where
  hc : w'.heap[cb]? = some (.cells C 80 (0, 0))
  bx : w'.cell? ⟨x, 0, none⟩ = some (.pointer (some ⟨cb, 0, none⟩))
  gb : w.grownBy w' (some cb)
  ne : x ≠ cb
theorem BZ.put {cb x : Nat} {C C2 : Array Value} {w w1 w2 : World} (h : BZ cb x C w w1) (hr : w2.heap[cb]? = some (.cells C2 80 (0, 0))) (hg : w1.grownBy w2 (some cb)) : BZ cb x C2 w w2 := ⟨hr, cell_gb hg h.ne h.bx, gb_trans h.gb hg, h.ne⟩
theorem BZ.start {cb : Nat} {C : Array Value} {w : World} (h : w.heap[cb]? = some (.cells C 80 (0, 0))) : BZ cb w.heap.size C w (w.alloc (.cells #[.pointer (some ⟨cb, 0, none⟩)] 30)) := by
  have hl := (Array.getElem?_eq_some_iff.1 h).1
  exact ⟨(heap_alloc_old _ _ hl).trans h, by rw [cell_of_row _ _ _ _ _ _ (heap_alloc_new w _)]; rfl, World.grownBy_alloc w _ (some cb), by omega⟩
set_option maxRecDepth 100000 in
set_option maxHeartbeats 4000000 in
theorem asECB_any (cb : Nat) (v0 v1 : Value) (w : World) (hcb : w.heap[cb]? = some (.cells #[v0, v1, .nilFunc, .nilFunc] 80 (0, 0))) :
    Calls Tryz.prog 63 #[.pointer (some ⟨cb, 0, none⟩)] w fun e w' => e = .returned (.tuple #[]) ∧ (∃ x, w'.heap[cb]? = some (.cells #[v0, v1, .func (.func 104) #[] #[.pointer (some ⟨x, 0, none⟩)], .func (.func 108) #[] #[.pointer (some ⟨x, 0, none⟩)]] 80 (0, 0)) ∧ w'.cell? ⟨x, 0, none⟩ = some (.pointer (some ⟨cb, 0, none⟩))) ∧ w.grownBy w' (some cb) := by
  have hmf : ∀ (fn : Fn) (first cap : Array Value) (w : World), (Instr.makeFunc fn first cap).run Tryz.prog w = .ok (.func fn first cap) w := fun _ _ _ _ => by simp [Instr.makeFunc]
  have Z0 := Lib.hid (BZ.start hcb)
  clear hcb
  go_enter Tryz.func63, Tryz.ntmps63
  go_upto_region 1 with fail
  generalize w.alloc (.cells #[.pointer (some ⟨cb, 0, none⟩)] 30) = w1 at *
  generalize w.heap.size = x at *
  refine wp_region_lit ?_
  refine Tree.p_load1 rfl _ _ rfl x 0 rfl (.pointer (some ⟨cb, 0, none⟩)) Z0.out.bx Tryz.underlying30 rfl ?_
  simp only [Act.put, sA9, sB9, sC9]
  refine Step.p_val rfl (.func (.func 104) #[] #[.pointer (some ⟨x, 0, none⟩)]) (by unfold execOp; simp only [Sem.run_bind, hmf, Result.andThen_ok, Sem.run_pure, List.map_toArray, List.map_cons, List.map_nil]; rfl) ?_
  simp only [Act.put, sA9, sB9, sC9]
  refine Step.p_val rfl (.pointer (some ⟨cb, 0, none⟩)) (by unfold execOp; go_simp; try rfl) ?_
  simp only [Act.put, sA9, sB9, sC9]
  refine Tree.p_field rfl _ _ _ rfl (cb) (0) rfl Tryz.underlying80 rfl (sz := 1) (by kernel_rfl) (by decide) (2) rfl ?_
  simp only [Act.put, sA9, sB9, sC9]
  refine Step.p_storeV rfl 78 _ _ rfl cb 2 rfl (.func (.func 104) #[] #[.pointer (some ⟨x, 0, none⟩)]) rfl (fun _ e => by cases e) rfl (by kernel_rfl) Z0.out.hc (by simp) ?_
  intro w2 hr hg2 _
  have Z3 := Lib.hid (Z0.out.put hr hg2)
  clear hr hg2 Z0
  simp only [Act.put]
  refine wpList_nil ?_
  go_upto_region 2 with fail
  refine wp_region_lit ?_
  refine Tree.p_load1 rfl _ _ rfl x 0 rfl (.pointer (some ⟨cb, 0, none⟩)) Z3.out.bx Tryz.underlying30 rfl ?_
  simp only [Act.put, sA9, sB9, sC9]
  refine Step.p_val rfl (.func (.func 108) #[] #[.pointer (some ⟨x, 0, none⟩)]) (by unfold execOp; simp only [Sem.run_bind, hmf, Result.andThen_ok, Sem.run_pure, List.map_toArray, List.map_cons, List.map_nil]; rfl) ?_
  simp only [Act.put, sA9, sB9, sC9]
  refine Step.p_val rfl (.pointer (some ⟨cb, 0, none⟩)) (by unfold execOp; go_simp; try rfl) ?_
  simp only [Act.put, sA9, sB9, sC9]
  refine Tree.p_field rfl _ _ _ rfl (cb) (0) rfl Tryz.underlying80 rfl (sz := 1) (by kernel_rfl) (by decide) (3) rfl ?_
  simp only [Act.put, sA9, sB9, sC9]
  refine Step.p_storeV rfl 78 _ _ rfl cb 3 rfl (.func (.func 108) #[] #[.pointer (some ⟨x, 0, none⟩)]) rfl (fun _ e => by cases e) rfl (by kernel_rfl) Z3.out.hc (by simp) ?_
  intro w4 hr hg2 _
  have Z5 := Lib.hid (Z3.out.put hr hg2)
  clear hr hg2 Z3
  simp only [Act.put]
  refine wpList_nil ?_
  go_wp2
  go_end0
  exact ⟨rfl, ⟨x, Z5.out.hc, Z5.out.bx⟩, Z5.out.gb⟩
set_option maxRecDepth 100000 in
set_option maxHeartbeats 4000000 in
theorem asXTS_any (cb : Nat) (v0 v1 : Value) (w : World) (hcb : w.heap[cb]? = some (.cells #[v0, v1, .nilFunc, .nilFunc] 80 (0, 0))) :
    Calls Tryz.prog 79 #[.pointer (some ⟨cb, 0, none⟩)] w fun e w' => e = .returned (.tuple #[]) ∧ (∃ x, w'.heap[cb]? = some (.cells #[v0, v1, .func (.func 131) #[] #[.pointer (some ⟨x, 0, none⟩)], .func (.func 134) #[] #[.pointer (some ⟨x, 0, none⟩)]] 80 (0, 0)) ∧ w'.cell? ⟨x, 0, none⟩ = some (.pointer (some ⟨cb, 0, none⟩))) ∧ w.grownBy w' (some cb) := by
  have hmf : ∀ (fn : Fn) (first cap : Array Value) (w : World), (Instr.makeFunc fn first cap).run Tryz.prog w = .ok (.func fn first cap) w := fun _ _ _ _ => by simp [Instr.makeFunc]
  have Z0 := Lib.hid (BZ.start hcb)
  clear hcb
  go_enter Tryz.func79, Tryz.ntmps79
  go_upto_region 1 with fail
  generalize w.alloc (.cells #[.pointer (some ⟨cb, 0, none⟩)] 30) = w1 at *
  generalize w.heap.size = x at *
  refine wp_region_lit ?_
  refine Tree.p_load1 rfl _ _ rfl x 0 rfl (.pointer (some ⟨cb, 0, none⟩)) Z0.out.bx Tryz.underlying30 rfl ?_
  simp only [Act.put, sA9, sB9, sC9]
  refine Step.p_val rfl (.func (.func 131) #[] #[.pointer (some ⟨x, 0, none⟩)]) (by unfold execOp; simp only [Sem.run_bind, hmf, Result.andThen_ok, Sem.run_pure, List.map_toArray, List.map_cons, List.map_nil]; rfl) ?_
  simp only [Act.put, sA9, sB9, sC9]
  refine Step.p_val rfl (.pointer (some ⟨cb, 0, none⟩)) (by unfold execOp; go_simp; try rfl) ?_
  simp only [Act.put, sA9, sB9, sC9]
  refine Tree.p_field rfl _ _ _ rfl (cb) (0) rfl Tryz.underlying80 rfl (sz := 1) (by kernel_rfl) (by decide) (2) rfl ?_
  simp only [Act.put, sA9, sB9, sC9]
  refine Step.p_storeV rfl 78 _ _ rfl cb 2 rfl (.func (.func 131) #[] #[.pointer (some ⟨x, 0, none⟩)]) rfl (fun _ e => by cases e) rfl (by kernel_rfl) Z0.out.hc (by simp) ?_
  intro w2 hr hg2 _
  have Z3 := Lib.hid (Z0.out.put hr hg2)
  clear hr hg2 Z0
  simp only [Act.put]
  refine wpList_nil ?_
  go_upto_region 2 with fail
  refine wp_region_lit ?_
  refine Tree.p_load1 rfl _ _ rfl x 0 rfl (.pointer (some ⟨cb, 0, none⟩)) Z3.out.bx Tryz.underlying30 rfl ?_
  simp only [Act.put, sA9, sB9, sC9]
  refine Step.p_val rfl (.func (.func 134) #[] #[.pointer (some ⟨x, 0, none⟩)]) (by unfold execOp; simp only [Sem.run_bind, hmf, Result.andThen_ok, Sem.run_pure, List.map_toArray, List.map_cons, List.map_nil]; rfl) ?_
  simp only [Act.put, sA9, sB9, sC9]
  refine Step.p_val rfl (.pointer (some ⟨cb, 0, none⟩)) (by unfold execOp; go_simp; try rfl) ?_
  simp only [Act.put, sA9, sB9, sC9]
  refine Tree.p_field rfl _ _ _ rfl (cb) (0) rfl Tryz.underlying80 rfl (sz := 1) (by kernel_rfl) (by decide) (3) rfl ?_
  simp only [Act.put, sA9, sB9, sC9]
  refine Step.p_storeV rfl 78 _ _ rfl cb 3 rfl (.func (.func 134) #[] #[.pointer (some ⟨x, 0, none⟩)]) rfl (fun _ e => by cases e) rfl (by kernel_rfl) Z3.out.hc (by simp) ?_
  intro w4 hr hg2 _
  have Z5 := Lib.hid (Z3.out.put hr hg2)
  clear hr hg2 Z3
  simp only [Act.put]
  refine wpList_nil ?_
  go_wp2
  go_end0
  exact ⟨rfl, ⟨x, Z5.out.hc, Z5.out.bx⟩, Z5.out.gb⟩
set_option maxRecDepth 100000 in
set_option maxHeartbeats 4000000 in
theorem xts1_any {k cb xb gk : Nat} {E0 D0 A : Nat → Nat} {fl wh : Nat → Nat} {cs : Array Value} {iv : Nat → Nat → Nat} {sf : FuncId} (hsf : (kindL 0 k)[3]? = some (fv sf)) (x : Nat) (E : Nat → Nat) (s n g cap : Nat) (hs : s < 2 ^ 64) (h16 : 16 ≤ n) (hn : n ≤ 4096) (hnc : n ≤ cap) (hcm : cap ≤ 9223372036854775807)
    (F0 : Nat → Nat) (hF : ∀ i, F0 i < 256) (hiv : iv s n < 2 ^ 128) (hA : A (iv s n) < 2 ^ 128) (w : World) (hM : Md k cb xb gk E0 D0 A true fl wh cs iv w) {v : Value} (hv : cs[2]? = some v) (hD : DoK 106 v E w) (hx : w.cell? ⟨x, 0, none⟩ = some (.pointer (some ⟨cb, 0, none⟩))) (hS : Sec w g n F0) (hg : g ≠ 2) :
    Calls Tryz.prog 131 #[.int .u64 s, .slice (some ⟨g, 0, none⟩) n cap, .pointer (some ⟨x, 0, none⟩)] w fun e w' => e = .returned (.tuple #[]) ∧ Sec w' g n (xtsF E false (A (iv s n)) n F0) ∧ w.grownBy w' (some g) := by
  have KPF := Lib.hid (fun w' (h : w.grownBy w' (some g)) => Kp.of_gb hS (by omega) hg h)
  have CX := Lib.hid (fun w' (h : w.grownBy w' (some g)) => (KPF.out w' h).cell0 hx (fun _ e => by cases e))
  have BT := Lib.hid (fun w' => between_any 106 w')
  have TW := Lib.hid (fun p w' (h : w.grownBy w' (some g)) (hp : w'.cell? ⟨p, 0, none⟩ = some (.func (.func 106) #[] #[])) hS => tweaked_any hsf false 106 ⟨_, Tryz.func106, by kernel_rfl, rfl⟩ E p s n g cap hs h16 hn hnc hcm F0 hF hiv hA w' (hM.kp (KPF.out w' h)) hv (hD.kq (KPF.out w' h).q) hp hS hg)
  have Z0 := Lib.hid (RZ.start hS)
  clear hM hS hD hx hv hsf
  go_enter Tryz.func131, Tryz.ntmps131
  skip
  go_upto_region 0 with fail
  refine Step.begin_ (S := fun w' => RS g [] w w') 5 rfl (by kernel_rfl) Z0.out.drew.rs ?_
  intro hSS
  clear hSS
  have Z1 := Lib.hid Z0.out.drew
  clear Z0
  refine Tree.t_load1 (i := 0) rfl rfl (by kernel_rfl) (by kernel_rfl) (by kernel_rfl) Z1.out.rs _ _ rfl (x) (0) rfl (.pointer (some ⟨cb, 0, none⟩)) (fun w' h => CX.out w' h.gb) Tryz.underlying30 rfl ?_
  simp only [Act.put, sA9, sB9, sC9]
  refine Step.t_move (i := 1) rfl rfl (by kernel_rfl) (by kernel_rfl) (by kernel_rfl) Z1.out.rs _ rfl (.int .u64 s) rfl ?_
  simp only [Act.put, sA9, sB9, sC9]
  refine Step.t_move (i := 2) rfl rfl (by kernel_rfl) (by kernel_rfl) (by kernel_rfl) Z1.out.rs _ rfl (.slice (some ⟨g, 0, none⟩) n cap) rfl ?_
  simp only [Act.put, sA9, sB9, sC9]
  refine Step.t_one (i := 3) rfl rfl (by kernel_rfl) ?_
  refine Step.w_callx 133 _ _ rfl Tryz.func133 (by kernel_rfl) rfl [.func (.func 106) #[] #[]] rfl (BT.out _) ?_
  rintro e w2 ⟨rfl, hc, hb⟩
  have Z3 := Lib.hid (Z1.out.bel hb)
  have PC := Lib.hid hc
  clear hc
  clear hb Z1
  refine ⟨_, rfl, Z3.out.rs, ?_⟩
  simp only [Act.put, sA9, sB9, sC9]
  refine Step.t_one (i := 4) rfl rfl (by kernel_rfl) ?_
  refine Step.w_callx 132 _ _ rfl Tryz.func132 (by kernel_rfl) rfl [.pointer (some ⟨cb, 0, none⟩), .int .u64 s, .slice (some ⟨g, 0, none⟩) n cap, .func (.func 167) #[] #[.pointer (some ⟨w.drew.heap.size, 0, none⟩)], .bool false] rfl (TW.out w.drew.heap.size _ Z3.out.rs.gb PC.out Z3.out.sec) ?_
  rintro e w4 ⟨rfl, hsec, hgr⟩
  have Z5 := Lib.hid (Z3.out.put hgr (hsec))
  clear hsec hgr Z3
  refine ⟨_, rfl, Z5.out.rs, ?_⟩
  simp only [Act.put, sA9, sB9, sC9]
  refine Step.t_end (by kernel_rfl) ?_
  go_wp2
  go_end0
  exact ⟨rfl, Z5.out.sec, Z5.out.rs.gb⟩
set_option maxRecDepth 100000 in
set_option maxHeartbeats 4000000 in
theorem xts2_any {k cb xb gk : Nat} {E0 D0 A : Nat → Nat} {fl wh : Nat → Nat} {cs : Array Value} {iv : Nat → Nat → Nat} {sf : FuncId} (hsf : (kindL 0 k)[3]? = some (fv sf)) (x : Nat) (E : Nat → Nat) (s n g cap : Nat) (hs : s < 2 ^ 64) (h16 : 16 ≤ n) (hn : n ≤ 4096) (hnc : n ≤ cap) (hcm : cap ≤ 9223372036854775807)
    (F0 : Nat → Nat) (hF : ∀ i, F0 i < 256) (hiv : iv s n < 2 ^ 128) (hA : A (iv s n) < 2 ^ 128) (w : World) (hM : Md k cb xb gk E0 D0 A true fl wh cs iv w) {v : Value} (hv : cs[2]? = some v) (hD : DoK 109 v E w) (hx : w.cell? ⟨x, 0, none⟩ = some (.pointer (some ⟨cb, 0, none⟩))) (hS : Sec w g n F0) (hg : g ≠ 2) :
    Calls Tryz.prog 134 #[.int .u64 s, .slice (some ⟨g, 0, none⟩) n cap, .pointer (some ⟨x, 0, none⟩)] w fun e w' => e = .returned (.tuple #[]) ∧ Sec w' g n (xtsF E true (A (iv s n)) n F0) ∧ w.grownBy w' (some g) := by
  have KPF := Lib.hid (fun w' (h : w.grownBy w' (some g)) => Kp.of_gb hS (by omega) hg h)
  have CX := Lib.hid (fun w' (h : w.grownBy w' (some g)) => (KPF.out w' h).cell0 hx (fun _ e => by cases e))
  have BT := Lib.hid (fun w' => between_any 109 w')
  have TW := Lib.hid (fun p w' (h : w.grownBy w' (some g)) (hp : w'.cell? ⟨p, 0, none⟩ = some (.func (.func 109) #[] #[])) hS => tweaked_any hsf true 109 ⟨_, Tryz.func109, by kernel_rfl, rfl⟩ E p s n g cap hs h16 hn hnc hcm F0 hF hiv hA w' (hM.kp (KPF.out w' h)) hv (hD.kq (KPF.out w' h).q) hp hS hg)
  have Z0 := Lib.hid (RZ.start hS)
  clear hM hS hD hx hv hsf
  go_enter Tryz.func134, Tryz.ntmps134
  skip
  go_upto_region 0 with fail
  refine Step.begin_ (S := fun w' => RS g [] w w') 5 rfl (by kernel_rfl) Z0.out.drew.rs ?_
  intro hSS
  clear hSS
  have Z1 := Lib.hid Z0.out.drew
  clear Z0
  refine Tree.t_load1 (i := 0) rfl rfl (by kernel_rfl) (by kernel_rfl) (by kernel_rfl) Z1.out.rs _ _ rfl (x) (0) rfl (.pointer (some ⟨cb, 0, none⟩)) (fun w' h => CX.out w' h.gb) Tryz.underlying30 rfl ?_
  simp only [Act.put, sA9, sB9, sC9]
  refine Step.t_move (i := 1) rfl rfl (by kernel_rfl) (by kernel_rfl) (by kernel_rfl) Z1.out.rs _ rfl (.int .u64 s) rfl ?_
  simp only [Act.put, sA9, sB9, sC9]
  refine Step.t_move (i := 2) rfl rfl (by kernel_rfl) (by kernel_rfl) (by kernel_rfl) Z1.out.rs _ rfl (.slice (some ⟨g, 0, none⟩) n cap) rfl ?_
  simp only [Act.put, sA9, sB9, sC9]
  refine Step.t_one (i := 3) rfl rfl (by kernel_rfl) ?_
  refine Step.w_callx 133 _ _ rfl Tryz.func133 (by kernel_rfl) rfl [.func (.func 109) #[] #[]] rfl (BT.out _) ?_
  rintro e w2 ⟨rfl, hc, hb⟩
  have Z3 := Lib.hid (Z1.out.bel hb)
  have PC := Lib.hid hc
  clear hc
  clear hb Z1
  refine ⟨_, rfl, Z3.out.rs, ?_⟩
  simp only [Act.put, sA9, sB9, sC9]
  refine Step.t_one (i := 4) rfl rfl (by kernel_rfl) ?_
  refine Step.w_callx 132 _ _ rfl Tryz.func132 (by kernel_rfl) rfl [.pointer (some ⟨cb, 0, none⟩), .int .u64 s, .slice (some ⟨g, 0, none⟩) n cap, .func (.func 167) #[] #[.pointer (some ⟨w.drew.heap.size, 0, none⟩)], .bool true] rfl (TW.out w.drew.heap.size _ Z3.out.rs.gb PC.out Z3.out.sec) ?_
  rintro e w4 ⟨rfl, hsec, hgr⟩
  have Z5 := Lib.hid (Z3.out.put hgr (hsec))
  clear hsec hgr Z3
  refine ⟨_, rfl, Z5.out.rs, ?_⟩
  simp only [Act.put, sA9, sB9, sC9]
  refine Step.t_end (by kernel_rfl) ?_
  go_wp2
  go_end0
  exact ⟨rfl, Z5.out.sec, Z5.out.rs.gb⟩

/-- starts that a mode names -/
def SfOk (k : Nat) : Prop := ∀ sf, (kindL 0 k)[3]? = some (fv sf) → FnOk sf
theorem buildEcb (E D A : Nat → Nat) (fl wh : Nat → Nat) (iv : Nat → Nat → Nat) : BuildAt 63 0 false E D A false fl wh iv (fun _ n f => blkF (fun _ b => E b) f (n / 16)) (fun _ n f => blkF (fun _ b => D b) f (n / 16)) := fun cb xb gk d cs w' hcb hxb hky hkd hR hst =>
  (asECB_any cb _ _ w' hcb).mono fun e w2 ⟨h1, ⟨x, h2, h3⟩, h4⟩ => by
    have kq : Kq w' w2 := Kq.of_gb hcb (by decide) (by decide) (fun z e => by cases e) h4
    have hx2 := (h4.block xb (Array.getElem?_eq_some_iff.1 hxb).1 (fun e => by cases e; rw [hcb] at hxb; cases hxb)).trans hxb
    obtain ⟨v, m1, m2, m3⟩ := (hky.kq kq).main
    have hlt := KindsAt_lt hkd
    have hM : Md 0 cb xb gk E D A false fl wh cs iv w2 := ⟨by decide, ⟨⟨_, _, h2⟩, hx2, d, KindsAt_gb hkd h4 (fun e => by
      have := hkd.c 0 (by decide) 0 _ rfl
      rw [e, cell_of_row w' _ _ _ _ _ hcb] at this
      cases this) (fun e => by
      have := hkd.d
      rw [e, hcb] at this
      cases this)⟩, hky.kq kq, fun sf e => by cases e⟩
    exact ⟨h1, ⟨_, [], [.pointer (some ⟨x, 0, none⟩)], _, [], [.pointer (some ⟨x, 0, none⟩)], h2, ⟨_, Tryz.func104, by kernel_rfl, rfl⟩, ⟨_, Tryz.func108, by kernel_rfl, rfl⟩,
      fun s n g cap F0 w3 e1 e2 e3 e4 e5 e6 e7 q e8 e9 => ecb1_any x E s n g cap e1 e2 e3 (e4.resolve_left (by decide)) e5 e6 F0 e7 w3 (hM.kp q) e8 e9 m1 (m2.kq q.q) (q.cell0 h3 (fun _ e => by cases e)),
      fun s n g cap F0 w3 e1 e2 e3 e4 e5 e6 e7 q e8 e9 => ecb2_any x D s n g cap e1 e2 e3 (e4.resolve_left (by decide)) e5 e6 F0 e7 w3 (hM.kp q) e8 e9 m1 (m3.kq q.q) (q.cell0 h3 (fun _ e => by cases e))⟩, h4⟩
/-- what a build's proof has at hand -/
theorem md_of {k cb xb gk d : Nat} {E D A : Nat → Nat} {two : Bool} {fl wh : Nat → Nat} {cs : Array Value} {iv : Nat → Nat → Nat} {w' w2 : World} {v0 v1 s u : Value} (hk : k < 17) (hok : SfOk k) (hv0 : v0 = .pointer (some ⟨xb, 0, none⟩)) (hv1 : v1 = .pointer (some ⟨gk, k * 7, none⟩)) (hcb : w'.heap[cb]? = some (.cells #[v0, v1, .nilFunc, .nilFunc] 80 (0, 0))) (h2 : w2.heap[cb]? = some (.cells #[v0, v1, s, u] 80 (0, 0)))
    (hxb : w'.heap[xb]? = some (.cells cs 96 (0, 0))) (hky : KeyR E D A two fl wh cs w') (hkd : KindsAt gk d w') (hR : RconAt w') (hst : ∀ sf, (kindL 0 k)[3]? = some (fv sf) → ∀ w2, w2.heap[xb]? = some (.cells cs 96 (0, 0)) → KeyR E D A two fl wh cs w2 → RconAt w2 → StAt sf xb iv w2) (h4 : w'.grownBy w2 (some cb)) : Md k cb xb gk E D A two fl wh cs iv w2 := by
  subst hv0 hv1
  have kq : Kq w' w2 := Kq.of_gb hcb (by decide) (by decide) (fun z e => by cases e) h4
  have hx2 := (h4.block xb (Array.getElem?_eq_some_iff.1 hxb).1 (fun e => by cases e; rw [hcb] at hxb; cases hxb)).trans hxb
  have hR2 : RconAt w2 := fun i hi => cell_gb h4 (fun e => by
    have := hR 0 (by decide)
    rw [e, cell_of_row w' _ _ _ _ _ hcb] at this
    cases this) (hR i hi)
  exact ⟨hk, ⟨⟨_, _, h2⟩, hx2, d, KindsAt_gb hkd h4 (fun e => by
      have := hkd.c 0 (by decide) 0 _ rfl
      rw [e, cell_of_row w' _ _ _ _ _ hcb] at this
      cases this) (fun e => by
      have := hkd.d
      rw [e, hcb] at this
      cases this)⟩, hky.kq kq, fun sf e => ⟨hok sf e, hst sf e w2 hx2 (hky.kq kq) hR2⟩⟩
theorem buildXts (k : Nat) (hk : k < 17) (hok : SfOk k) (sf : FuncId) (hsf : (kindL 0 k)[3]? = some (fv sf)) (E D A : Nat → Nat) (fl wh : Nat → Nat) (iv : Nat → Nat → Nat) (hiv : ∀ s n, s < 2 ^ 64 → n ≤ 4096 → iv s n < 2 ^ 128) (hA : ∀ x, A x < 2 ^ 128) :
    BuildAt 79 k true E D A true fl wh iv (fun s n f => xtsF E false (A (iv s n)) n f) (fun s n f => xtsF D true (A (iv s n)) n f) := fun cb xb gk d cs w' hcb hxb hky hkd hR hst =>
  (asXTS_any cb _ _ w' hcb).mono fun e w2 ⟨h1, ⟨x, h2, h3⟩, h4⟩ => by
    have hM := md_of hk hok rfl rfl hcb h2 hxb hky hkd hR hst h4
    obtain ⟨v, m1, m2, m3⟩ := hM.ky.main
    exact ⟨h1, ⟨_, [], [.pointer (some ⟨x, 0, none⟩)], _, [], [.pointer (some ⟨x, 0, none⟩)], h2, ⟨_, Tryz.func131, by kernel_rfl, rfl⟩, ⟨_, Tryz.func134, by kernel_rfl, rfl⟩,
      fun s n g cap F0 w3 e1 e2 e3 _ e5 e6 e7 q e8 e9 => xts1_any hsf x E s n g cap e1 e2 e3 e5 e6 F0 e7 (hiv s n e1 e3) (hA _) w3 (hM.kp q) m1 (m2.kq q.q) (q.cell0 h3 (fun _ e => by cases e)) e8 e9,
      fun s n g cap F0 w3 e1 e2 e3 _ e5 e6 e7 q e8 e9 => xts2_any hsf x D s n g cap e1 e2 e3 e5 e6 F0 e7 (hiv s n e1 e3) (hA _) w3 (hM.kp q) m1 (m3.kq q.q) (q.cell0 h3 (fun _ e => by cases e)) e8 e9⟩, h4⟩
end Go.Proofs.YtmifebcaifbmoaaGreatDoor.G
end
