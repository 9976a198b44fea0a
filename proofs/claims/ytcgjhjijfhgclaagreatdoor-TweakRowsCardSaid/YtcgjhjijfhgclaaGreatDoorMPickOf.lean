/- cofferlaw03: Pick.of: a kind among those listed. -/
import Derived.Test.YtcgjhjijfhgclaaGreatDoorMPick
import Derived.Test.YtcgjhjijfhgclaaGreatDoorMLrw
import Derived.Test.YtcgjhjijfhgclaaGreatDoorMStill
namespace Go.Proofs.YtcgjhjijfhgclaaGreatDoor.Tab
open Go.RowKit Go.Lib Go.Proofs.YtcgjhjijfhgclaaGreatDoor.Byts

def nnP (z : Int) : Nat := (z % 18446744073709551616).toNat % 3000
/-- the kind and the row that a number picks among a list -/
def ofN (K : Nat → Nat) (L : Nat) (z : Int) : Nat := K (nnP z % L) + 17 * (nnP z / L % 3)
/-- a pick in its own block, and an empty pick behind it -/
structure PkO (z : Int) (q : Option Addr) (n cap : Nat) (B : Nat) (w w' : World) : Prop where
  p : w'.heap[B]? = some (.cells #[.int .i64 z, .slice q n cap] 24 (0, 0))
  r : w'.heap[B + 1]? = some (.cells #[.int .i64 0, .slice none 0 0] 24 (0, 0))
  bel : Below B w w'
theorem pko_new (z : Int) (q : Option Addr) (n cap : Nat) (w : World) : PkO z q n cap w.heap.size w ((w.alloc (.cells #[.int .i64 z, .slice q n cap] 24)).alloc (.cells #[.int .i64 0, .slice none 0 0] 24)) :=
  ⟨(heap_alloc_old _ _ (by simp)).trans (heap_alloc_new w _), by
    have := heap_alloc_new (w.alloc (.cells #[.int .i64 z, .slice q n cap] 24)) (.cells #[.int .i64 0, .slice none 0 0] 24)
    simp only [World.size_alloc] at this
    exact this, ((Below.refl _ _).alloc (Nat.le_refl _) _).alloc (by simp) _⟩

set_option maxRecDepth 100000 in
set_option maxHeartbeats 4000000 in
theorem of_any (K : Nat → Nat) (L : Nat) (hL : 0 < L) (hL2 : L ≤ 100) (hK : ∀ j, j < L → K j ≤ 100) (z : Int) (_hz : IntKind.i64.has z) (q : Option Addr) (n cap : Nat) (g kc : Nat) (w : World) (hc : ∀ j, j < L → w.cell? ⟨g, j, none⟩ = some (.int .i64 (K j : Nat))) : Calls Tryz.prog 7 #[pickV z q n cap, .slice (some ⟨g, 0, none⟩) L kc] w fun e w' => e = .returned (pickV (ofN K L z : Nat) q n cap) ∧ Below w.heap.size w w' := by
  have HP := Lib.hid (pko_new z q n cap w)
  have PL : nnP z % L < L := Nat.mod_lt _ hL
  have hk := hK _ PL
  have CC : Hid (∀ w', Below w.heap.size w w' → w'.cell? ⟨g, nnP z % L, none⟩ = some (.int .i64 (K (nnP z % L) : Nat))) := Lib.hid fun w' hb => (hb.cell (Frame.block_lt (hc _ PL))).trans (hc _ PL)
  clear hc hK
  have PE : Hid (((z % 18446744073709551616).toNat % 3000 : Nat) = nnP z) := Lib.hid rfl
  have OE : Hid (ofN K L z = K (nnP z % L) + 17 * (nnP z / L % 3)) := Lib.hid rfl
  have hnn : nnP z < 3000 := Nat.mod_lt _ (by decide)
  generalize ofN K L z = rz at *
  generalize nnP z = nn at *
  have hq3 : nn / L % 3 < 3 := Nat.mod_lt _ (by decide)
  have EM : Hid ((nn : Int).tmod (L : Int) = (nn % L : Nat)) := Lib.hid rfl
  have ED : Hid ((nn : Int).tdiv (L : Int) = (nn / L : Nat)) := Lib.hid rfl
  have hdl : nn / L ≤ nn := Nat.div_le_self _ _
  generalize nn % L = j at *
  generalize nn / L = d at *
  generalize K j = kj at *
  unfold pickV
  go_enter Tryz.func7, Tryz.ntmps7
  go_upto_region 1 with fail
  generalize (w.alloc (.cells #[.int .i64 z, .slice q n cap] 24)).alloc (.cells #[.int .i64 0, .slice none 0 0] 24) = w1 at *
  refine wp_region_lit ?_
  refine Tree.p_field rfl _ _ _ rfl (w.heap.size) (0) rfl Tryz.underlying24 rfl (sz := 1) (by kernel_rfl) (by decide) (0) rfl ?_
  simp only [Act.put, List.setIfInBounds_toArray, List.set_cons_zero, List.set_cons_succ]
  refine Tree.p_load1 rfl _ _ rfl (w.heap.size) (0) rfl (.int .i64 z) (by rw [cell_of_row w1 _ _ _ _ _ HP.out.p]; rfl) Tryz.underlying3 rfl ?_
  simp only [Act.put, List.setIfInBounds_toArray, List.set_cons_zero, List.set_cons_succ]
  refine Step.p_val rfl (.int .u64 (z % 18446744073709551616)) (by unfold execOp; go_simp; exact IntKind.wrap_u64 z) ?_
  simp only [Act.put, List.setIfInBounds_toArray, List.set_cons_zero, List.set_cons_succ]
  refine Step.p_val rfl (.int .u64 (nn : Nat)) (by unfold execOp; go_simp; rw [← PE.out, Int.tmod_eq_emod_of_nonneg (by omega)]; omega) ?_
  simp only [Act.put, List.setIfInBounds_toArray, List.set_cons_zero, List.set_cons_succ]
  refine Step.p_val rfl (.int .i64 (nn : Nat)) (by unfold execOp; go_simp; try exact IntWalk.i64_in _ (by omega)) ?_
  simp only [Act.put, List.setIfInBounds_toArray, List.set_cons_zero, List.set_cons_succ]
  refine Step.p_assign rfl _ rfl (.int .i64 (nn : Nat)) rfl ?_
  simp only [Act.put, List.setIfInBounds_toArray, List.set_cons_zero, List.set_cons_succ]
  refine wpList_nil ?_
  go_upto_region 2 with fail
  refine wp_region_still_tail 15 (by kernel_rfl) (by kernel_rfl) ?_
  refine Still.s_move rfl _ rfl (.slice (some ⟨g, 0, none⟩) L kc) rfl ?_
  simp only [Act.put, List.setIfInBounds_toArray, List.set_cons_zero, List.set_cons_succ]
  refine Still.s_move rfl _ rfl (.int .i64 nn) rfl ?_
  simp only [Act.put, List.setIfInBounds_toArray, List.set_cons_zero, List.set_cons_succ]
  refine Still.s_move rfl _ rfl (.slice (some ⟨g, 0, none⟩) L kc) rfl ?_
  simp only [Act.put, List.setIfInBounds_toArray, List.set_cons_zero, List.set_cons_succ]
  refine Still.s_val rfl (.int .i64 L) (by unfold execOp; go_simp) ?_
  simp only [Act.put, List.setIfInBounds_toArray, List.set_cons_zero, List.set_cons_succ]
  refine Still.s_val rfl (.int .i64 j) (by unfold execOp; have := EM.out; go_simp; try (first | omega | (rw [if_neg (by omega)]; exact congrArg _ EM.out))) ?_
  simp only [Act.put, List.setIfInBounds_toArray, List.set_cons_zero, List.set_cons_succ]
  refine Still.s_idxS rfl _ 3 _ _ rfl (g) (0) (L) (kc) rfl .i64 (j) rfl PL Tryz.underlying29 (size := 1) (by kernel_rfl) (j) (by omega) ?_
  simp only [Act.put, List.setIfInBounds_toArray, List.set_cons_zero, List.set_cons_succ]
  refine Still.s_load1 rfl _ _ rfl (g) (j) rfl (.int .i64 kj) (CC.out _ HP.out.bel.drew) Tryz.underlying3 rfl ?_
  simp only [Act.put, List.setIfInBounds_toArray, List.set_cons_zero, List.set_cons_succ]
  refine Still.s_move rfl _ rfl (.int .i64 nn) rfl ?_
  simp only [Act.put, List.setIfInBounds_toArray, List.set_cons_zero, List.set_cons_succ]
  refine Still.s_move rfl _ rfl (.slice (some ⟨g, 0, none⟩) L kc) rfl ?_
  simp only [Act.put, List.setIfInBounds_toArray, List.set_cons_zero, List.set_cons_succ]
  refine Still.s_val rfl (.int .i64 L) (by unfold execOp; go_simp) ?_
  simp only [Act.put, List.setIfInBounds_toArray, List.set_cons_zero, List.set_cons_succ]
  refine Still.s_val rfl (.int .i64 d) (by unfold execOp; have := ED.out; go_simp; rw [if_neg (by omega), show IntKind.i64.wrap (d : Int) = d from IntWalk.i64_in _ (by omega)]) ?_
  simp only [Act.put, List.setIfInBounds_toArray, List.set_cons_zero, List.set_cons_succ]
  refine Still.s_val rfl (.int .i64 (d % 3 : Nat)) (by unfold execOp; go_simp; try (first | rfl | exact Int.tmod_eq_emod_of_nonneg (by omega))) ?_
  simp only [Act.put, List.setIfInBounds_toArray, List.set_cons_zero, List.set_cons_succ]
  refine Still.s_val rfl (.int .i64 (17 * (d % 3) : Nat)) (by unfold execOp; go_simp; try exact (IntWalk.i64_in _ (by omega)).trans (by omega)) ?_
  simp only [Act.put, List.setIfInBounds_toArray, List.set_cons_zero, List.set_cons_succ]
  refine Still.s_val rfl (.int .i64 rz) (by unfold execOp; have := OE.out; go_simp; try exact (IntWalk.i64_in _ (by omega)).trans (by omega)) ?_
  simp only [Act.put, List.setIfInBounds_toArray, List.set_cons_zero, List.set_cons_succ]
  refine Still.s_val rfl (.pointer (some ⟨w.heap.size, 0, none⟩)) (by unfold execOp; simp only [Sem.run_bind, Sem.run_pure]; rfl) ?_
  simp only [Act.put, List.setIfInBounds_toArray, List.set_cons_zero, List.set_cons_succ]
  refine wpStill_nil ?_
  simp only [List.drop]
  change wpList _ _ _ _ _ w1.drew
  refine Step.p_storeV rfl 3 _ _ rfl w.heap.size 0 rfl (.int .i64 rz) rfl (fun _ e => by cases e) rfl (by kernel_rfl) (show w1.drew.heap[w.heap.size]? = _ from HP.out.p) (by simp) ?_
  intro w2 hr hg hsz
  simp only [Act.put]
  refine wpList_nil ?_
  have H2 : Hid (PkO rz q n cap w.heap.size w w2) := Lib.hid ⟨hr, (hg.block _ (Array.getElem?_eq_some_iff.1 HP.out.r).1 (fun e => absurd (Option.some.inj e) (by omega))).trans HP.out.r, HP.out.bel.drew.grown hg HP.out.bel.size (fun j hj => by cases hj; exact Nat.le_refl _)⟩
  clear hr hg hsz HP CC PE EM ED
  go_upto_region 3 with fail
  refine wp_region_lit ?_
  refine Tree.p_loadrow rfl _ _ rfl (w.heap.size) rfl (H2.out.p) Tryz.underlying24 rfl (by kernel_rfl) ?_
  simp only [Act.put, List.setIfInBounds_toArray, List.set_cons_zero, List.set_cons_succ]
  refine Cell.p_storerow rfl 24 _ _ rfl (w.heap.size + 1) rfl #[.int .i64 rz, .slice q n cap] rfl (by kernel_rfl) (by simp [Value.oneCell']) H2.out.r rfl ?_
  intro w3 hr3 hg3 _
  simp only [Act.put]
  refine wpList_nil ?_
  have B3 := Lib.hid (H2.out.bel.grown hg3 H2.out.bel.size (fun j hj => by cases hj; exact Nat.le_succ _))
  clear hg3
  go_wp2
  exact Cell.ret_row rfl rfl hr3 Tryz.underlying24 rfl (by kernel_rfl) rfl ⟨by rw [OE.out], B3.out⟩
end Go.Proofs.YtcgjhjijfhgclaaGreatDoor.Tab
