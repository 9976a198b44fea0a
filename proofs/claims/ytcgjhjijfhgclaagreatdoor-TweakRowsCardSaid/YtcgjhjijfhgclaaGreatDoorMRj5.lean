/- rijndael: the tables of a key. -/
import Derived.Test.YtcgjhjijfhgclaaGreatDoorMRj3
import Derived.Test.YtcgjhjijfhgclaaGreatDoorMSeg
namespace Go.Proofs.YtcgjhjijfhgclaaGreatDoor.Rj
open Go.RowKit Go.Lib Go.Proofs.YtcgjhjijfhgclaaGreatDoor.Blk Go.Proofs.YtcgjhjijfhgclaaGreatDoor.Aes Go.Proofs.YtcgjhjijfhgclaaGreatDoor.Seg

/-- the tables, as they lie -/
structure TabC (C : Array Value) : Prop where
  size : C.size = 2560
  s : Sg C 0 .u8 256 fun i => (S i : Nat)
  u : Sg C 256 .u8 256 fun i => (U i : Nat)
  e : Sg C 512 .u32 1024 fun x => (tabW S mE x : Nat)
  d : Sg C 1536 .u32 1024 fun x => (tabW U mD x : Nat)
def TabAt (w : World) (b : Nat) : Prop := ∃ C, w.heap[b]? = some (.cells C 196 (0, 0)) ∧ TabC C
theorem TabAt.below {w w' : World} {b : Nat} (h : TabAt w b) (hb : Below w.heap.size w w') : TabAt w' b := by
  obtain ⟨C, h1, h2⟩ := h
  exact ⟨C, (hb.block b (Array.getElem?_eq_some_iff.1 h1).1).trans h1, h2⟩
theorem info_of {t : TypeId} {z : Value} {s b : Nat} (h : (Tryz.prog.info? t).map (fun i => (i.zero, i.size, i.bytes)) = some (some z, s, b)) : ∃ i, Tryz.prog.info? t = some i ∧ i.zero = some z ∧ i.size = s ∧ i.bytes = b := by
  cases hi : Tryz.prog.info? t with
  | none => simp [hi] at h
  | some I =>
    simp only [hi, Option.map_some, Option.some.injEq, Prod.mk.injEq] at h
    exact ⟨I, rfl, h.1, h.2.1, h.2.2⟩
theorem S_b : Byt S 256 := S_lt
theorem arr_toList (k : IntKind) (n : Nat) (f : Nat → Int) : (arr k n f).toList.length = n := by rw [Array.length_toList, arr_size]
theorem arr_one' (k : IntKind) (n : Nat) (f : Nat → Int) : ∀ v ∈ (arr k n f).toList, v.oneCell' = true := by
  have := arr_one k n f
  rw [← Array.all_toList, List.all_eq_true] at this
  exact this
theorem mE_b : Byt mE 4 := fun j hj => by rcases (by omega : j = 0 ∨ j = 1 ∨ j = 2 ∨ j = 3) with rfl | rfl | rfl | rfl <;> decide
theorem mD_b : Byt mD 4 := fun j hj => by rcases (by omega : j = 0 ∨ j = 1 ∨ j = 2 ∨ j = 3) with rfl | rfl | rfl | rfl <;> decide
set_option maxRecDepth 100000 in
theorem zT_cells : (match (Tryz.prog.info? 196).bind (·.zero) with | some (.agg z) => some z.size | _ => none) = some 2560 := by kernel_rfl
theorem zT_ex : ∃ z : Array Value, (Tryz.prog.info? 196).bind (·.zero) = some (.agg z) ∧ z.size = 2560 := by
  have h := zT_cells
  split at h
  · rename_i z hz
    exact ⟨z, hz, Option.some.inj h⟩
  · cases h

set_option maxRecDepth 100000 in
set_option maxHeartbeats 4000000 in
theorem made_any (w : World) : Calls Tryz.prog 131 #[] w fun e w' => ∃ b, e = .returned (.pointer (some ⟨b, 0, none⟩)) ∧ w.heap.size ≤ b ∧ TabAt w' b ∧ Below w.heap.size w w' := by
  obtain ⟨zT, zTT, zT_size⟩ := zT_ex
  obtain ⟨i_b, a1, a2, a3, a4⟩ := info_of (t := 5) (z := .int .u8 0) (s := 1) (b := 1) (by kernel_rfl)
  go_enter Tryz.func131, Tryz.ntmps131
  go_upto_region 1 with fail
  refine wp_region_lit ?_
  refine Step.p_wp rfl (Step.w_callx 146 [] _ rfl Tryz.func146 (by kernel_rfl) rfl [] rfl (substitutions_any w) ?_)
  rintro e w1 ⟨rfl, hb1⟩
  refine ⟨_, rfl, ?_⟩
  simp only [Act.put, List.setIfInBounds_toArray, List.set_cons_zero, List.set_cons_succ]
  refine p_build1 rfl 196 0 _ rfl (arr .u8 256 fun i => ((S i : Nat) : Int)) rfl zT zTT Tryz.underlying196 [(0, 256), (256, 256), (512, 1024), (1536, 1024)] (by kernel_rfl) 0 (by rw [arr_size]; rfl) (by rw [arr_size, zT_size]; decide) ?_
  intro C hC1 hC2
  simp only [Act.put, List.setIfInBounds_toArray, List.set_cons_zero, List.set_cons_succ]
  have hsz : C.size = 2560 := hC1.trans zT_size
  have hS : Sg C 0 .u8 256 fun i => (S i : Nat) := fun i hi => by rw [hC2 i (by rw [arr_size]; exact hi), arr_get _ _ _ i hi]
  clear hC1 hC2
  refine p_boxA rfl 196 _ rfl C rfl ?_
  simp only [Act.put, List.setIfInBounds_toArray, List.set_cons_zero, List.set_cons_succ]
  refine Step.p_assign rfl _ rfl (.pointer (some ⟨w1.heap.size, 0, none⟩)) rfl ?_
  simp only [Act.put, List.setIfInBounds_toArray, List.set_cons_zero, List.set_cons_succ]
  refine wpList_nil ?_
  have o2 := heap_alloc_new w1 (.cells C 196)
  have b2 := hb1.trans (((Below.refl w1.heap.size w1).alloc (Nat.le_refl _) (.cells C 196)).mono hb1.size)
  have ge := hb1.size
  generalize w1.alloc (.cells C 196) = w2 at *
  generalize w1.heap.size = b at *
  have O2 := Lib.hid o2
  have B2 := Lib.hid b2
  clear o2 b2 hb1
  go_upto_region 2 with fail
  refine wp_region_lit ?_
  refine Step.p_move rfl _ rfl (.pointer (some ⟨b, 0, none⟩)) rfl ?_
  simp only [Act.put, List.setIfInBounds_toArray, List.set_cons_zero, List.set_cons_succ]
  refine Step.p_move rfl _ rfl (.pointer (some ⟨b, 0, none⟩)) rfl ?_
  simp only [Act.put, List.setIfInBounds_toArray, List.set_cons_zero, List.set_cons_succ]
  refine Step.p_val rfl (.pointer (some ⟨b, 0, none⟩)) (by unfold execOp; go_simp) ?_
  simp only [Act.put, List.setIfInBounds_toArray, List.set_cons_zero, List.set_cons_succ]
  refine Tree.p_field rfl _ _ _ rfl (b) (0) rfl Tryz.underlying196 rfl (sz := 256) (by kernel_rfl) (by decide) (0) rfl ?_
  simp only [Act.put, List.setIfInBounds_toArray, List.set_cons_zero, List.set_cons_succ]
  refine Tree.p_loadmid rfl _ _ rfl b 0 rfl (arr .u8 256 fun i => ((S i : Nat) : Int)).toList (Sg.range O2.out hS) Tryz.underlying99 rfl (by rw [arr_toList]; exact info256) ?_
  simp only [Act.put, List.setIfInBounds_toArray, List.set_cons_zero, List.set_cons_succ, Array.toArray_toList]
  refine Step.p_wp rfl (Step.w_callx 147 [.tmp 9] _ rfl Tryz.func147 (by kernel_rfl) rfl [.agg (arr .u8 256 fun i => ((S i : Nat) : Int))] rfl (inverse_any w2) ?_)
  rintro e w3 ⟨rfl, hb3⟩
  refine ⟨_, rfl, ?_⟩
  simp only [Act.put, List.setIfInBounds_toArray, List.set_cons_zero, List.set_cons_succ]
  have O3 := Lib.hid ((hb3.block b (Array.getElem?_eq_some_iff.1 O2.out).1).trans O2.out)
  have B3 := Lib.hid (B2.out.trans (hb3.mono B2.out.size))
  clear hb3
  refine Step.p_val rfl (.pointer (some ⟨b, 0, none⟩)) (by unfold execOp; go_simp) ?_
  simp only [Act.put, List.setIfInBounds_toArray, List.set_cons_zero, List.set_cons_succ]
  refine Tree.p_field rfl _ _ _ rfl (b) (0) rfl Tryz.underlying196 rfl (sz := 256) (by kernel_rfl) (by decide) (256) rfl ?_
  simp only [Act.put, List.setIfInBounds_toArray, List.set_cons_zero, List.set_cons_succ]
  refine Tree.p_storemid rfl 99 _ _ rfl b 256 rfl (arr .u8 256 fun i => ((U i : Nat) : Int)) rfl (by rw [arr_size]; exact info256) (arr_one' _ _ _) O3.out (by rw [arr_size, hsz]; decide) ?_
  refine wpList_nil ?_
  simp only [Act.put]
  have oN := setRow_heap w3 b C (Tree.patch C 256 (arr .u8 256 fun i => ((U i : Nat) : Int)).toList) _ _ O3.out
  have bN : Below w.heap.size w (w3.setRow b (Tree.patch C 256 (arr .u8 256 fun i => ((U i : Nat) : Int)).toList)) := B3.out.grown (show w3.grownBy (w3.setRow b (Tree.patch C 256 (arr .u8 256 fun i => ((U i : Nat) : Int)).toList)) (some b) from ⟨rfl, rfl, rfl, by simp, fun k hk hne => setRow_other _ _ _ _ (fun e => hne (by rw [e]))⟩) B3.out.size (fun k hk => by cases hk; exact ge)
  have hlN : 256 + (arr .u8 256 fun i => ((U i : Nat) : Int)).toList.length ≤ C.size := by rw [arr_toList, hsz]; decide
  have szN := Tree.patch_size C 256 (arr .u8 256 fun i => ((U i : Nat) : Int)).toList hlN
  have hU : Sg (Tree.patch C 256 (arr .u8 256 fun i => ((U i : Nat) : Int)).toList) 256 .u8 256 (fun i => (U i : Nat)) := Sg.patched C 256 .u8 256 _ (by rw [hsz]; decide)
  have hSN := Sg.kept (vs := (arr .u8 256 fun i => ((U i : Nat) : Int)).toList) hS hlN (by rw [arr_toList]; decide)
  clear hS
  generalize Tree.patch C 256 (arr .u8 256 fun i => ((U i : Nat) : Int)).toList = C4 at *
  generalize w3.setRow b C4 = w4 at *
  have O4 := Lib.hid oN
  have B4 := Lib.hid bN
  replace hsz : C4.size = 2560 := szN.trans hsz
  clear oN bN hlN szN
  have hS := hSN
  clear hSN
  go_upto_region 3 with fail
  refine wp_region_lit ?_
  refine Step.p_move rfl _ rfl (.pointer (some ⟨b, 0, none⟩)) rfl ?_
  simp only [Act.put, List.setIfInBounds_toArray, List.set_cons_zero, List.set_cons_succ]
  refine Step.p_move rfl _ rfl (.pointer (some ⟨b, 0, none⟩)) rfl ?_
  simp only [Act.put, List.setIfInBounds_toArray, List.set_cons_zero, List.set_cons_succ]
  refine Step.p_val rfl (.pointer (some ⟨b, 0, none⟩)) (by unfold execOp; go_simp) ?_
  simp only [Act.put, List.setIfInBounds_toArray, List.set_cons_zero, List.set_cons_succ]
  refine Tree.p_field rfl _ _ _ rfl (b) (0) rfl Tryz.underlying196 rfl (sz := 256) (by kernel_rfl) (by decide) (0) rfl ?_
  simp only [Act.put, List.setIfInBounds_toArray, List.set_cons_zero, List.set_cons_succ]
  refine Tree.p_loadmid rfl _ _ rfl b 0 rfl (arr .u8 256 fun i => ((S i : Nat) : Int)).toList (Sg.range O4.out hS) Tryz.underlying99 rfl (by rw [arr_toList]; exact info256) ?_
  simp only [Act.put, List.setIfInBounds_toArray, List.set_cons_zero, List.set_cons_succ, Array.toArray_toList]
  refine p_lit4 rfl 22 5 _ _ _ _ rfl .u8 2 1 1 3 rfl rfl rfl rfl Tryz.underlying22 a1 a2 a3 ?_
  simp only [Act.put, List.setIfInBounds_toArray, List.set_cons_zero, List.set_cons_succ]
  have oc := heap_alloc_new w4 (.cells #[.int .u8 2, .int .u8 1, .int .u8 1, .int .u8 3] 5)
  have bc := (Below.refl w4.heap.size w4).alloc (Nat.le_refl _) (.cells #[.int .u8 2, .int .u8 1, .int .u8 1, .int .u8 3] 5)
  skip
  generalize w4.alloc (.cells #[.int .u8 2, .int .u8 1, .int .u8 1, .int .u8 3] 5) = w5 at *
  have O4a := Lib.hid ((bc.block b (Array.getElem?_eq_some_iff.1 O4.out).1).trans O4.out)
  have B4a := Lib.hid (B4.out.trans (bc.mono B4.out.size))
  refine Step.p_wp rfl (Step.w_callx 148 [.tmp 17, .tmp 18] _ rfl Tryz.func148 (by kernel_rfl) rfl [.agg (arr .u8 256 fun i => ((S i : Nat) : Int)), .slice (some ⟨w4.heap.size, 0, none⟩) 4 4] rfl (products_any S mE S_b mE_b w4.heap.size 0 4 w5 (fun d hd => by rw [cell_of_row _ _ (0 + d) _ _ _ oc]; rcases (by omega : d = 0 ∨ d = 1 ∨ d = 2 ∨ d = 3) with rfl | rfl | rfl | rfl <;> rfl)) ?_)
  rintro e w6 ⟨rfl, hb⟩
  refine ⟨_, rfl, ?_⟩
  simp only [Act.put, List.setIfInBounds_toArray, List.set_cons_zero, List.set_cons_succ]
  have O4b := Lib.hid ((hb.block b (Array.getElem?_eq_some_iff.1 O4a.out).1).trans O4a.out)
  have B4b := Lib.hid (B4a.out.trans (hb.mono B4a.out.size))
  clear hb oc bc
  refine Step.p_val rfl (.pointer (some ⟨b, 0, none⟩)) (by unfold execOp; go_simp) ?_
  simp only [Act.put, List.setIfInBounds_toArray, List.set_cons_zero, List.set_cons_succ]
  refine Tree.p_field rfl _ _ _ rfl (b) (0) rfl Tryz.underlying196 rfl (sz := 1024) (by kernel_rfl) (by decide) (512) rfl ?_
  simp only [Act.put, List.setIfInBounds_toArray, List.set_cons_zero, List.set_cons_succ]
  refine Tree.p_storemid rfl 194 _ _ rfl b 512 rfl (arr .u32 1024 fun x => ((tabW S mE x : Nat) : Int)) rfl (by rw [arr_size]; exact info1024) (arr_one' _ _ _) O4b.out (by rw [arr_size, hsz]; decide) ?_
  refine wpList_nil ?_
  simp only [Act.put]
  have oN := setRow_heap w6 b C4 (Tree.patch C4 512 (arr .u32 1024 fun x => ((tabW S mE x : Nat) : Int)).toList) _ _ O4b.out
  have bN : Below w.heap.size w (w6.setRow b (Tree.patch C4 512 (arr .u32 1024 fun x => ((tabW S mE x : Nat) : Int)).toList)) := B4b.out.grown (show w6.grownBy (w6.setRow b (Tree.patch C4 512 (arr .u32 1024 fun x => ((tabW S mE x : Nat) : Int)).toList)) (some b) from ⟨rfl, rfl, rfl, by simp, fun k hk hne => setRow_other _ _ _ _ (fun e => hne (by rw [e]))⟩) B4b.out.size (fun k hk => by cases hk; exact ge)
  have hlN : 512 + (arr .u32 1024 fun x => ((tabW S mE x : Nat) : Int)).toList.length ≤ C4.size := by rw [arr_toList, hsz]; decide
  have szN := Tree.patch_size C4 512 (arr .u32 1024 fun x => ((tabW S mE x : Nat) : Int)).toList hlN
  have hE : Sg (Tree.patch C4 512 (arr .u32 1024 fun x => ((tabW S mE x : Nat) : Int)).toList) 512 .u32 1024 (fun x => (tabW S mE x : Nat)) := Sg.patched C4 512 .u32 1024 _ (by rw [hsz]; decide)
  have hSN := Sg.kept (vs := (arr .u32 1024 fun x => ((tabW S mE x : Nat) : Int)).toList) hS hlN (by rw [arr_toList]; decide)
  clear hS
  have hUN := Sg.kept (vs := (arr .u32 1024 fun x => ((tabW S mE x : Nat) : Int)).toList) hU hlN (by rw [arr_toList]; decide)
  clear hU
  generalize Tree.patch C4 512 (arr .u32 1024 fun x => ((tabW S mE x : Nat) : Int)).toList = C6 at *
  generalize w6.setRow b C6 = w7 at *
  have O6 := Lib.hid oN
  have B6 := Lib.hid bN
  replace hsz : C6.size = 2560 := szN.trans hsz
  clear oN bN hlN szN
  have hS := hSN
  clear hSN
  have hU := hUN
  clear hUN
  go_upto_region 4 with fail
  refine wp_region_lit ?_
  refine Step.p_move rfl _ rfl (.pointer (some ⟨b, 0, none⟩)) rfl ?_
  simp only [Act.put, List.setIfInBounds_toArray, List.set_cons_zero, List.set_cons_succ]
  refine Step.p_move rfl _ rfl (.pointer (some ⟨b, 0, none⟩)) rfl ?_
  simp only [Act.put, List.setIfInBounds_toArray, List.set_cons_zero, List.set_cons_succ]
  refine Step.p_val rfl (.pointer (some ⟨b, 0, none⟩)) (by unfold execOp; go_simp) ?_
  simp only [Act.put, List.setIfInBounds_toArray, List.set_cons_zero, List.set_cons_succ]
  refine Tree.p_field rfl _ _ _ rfl (b) (0) rfl Tryz.underlying196 rfl (sz := 256) (by kernel_rfl) (by decide) (256) rfl ?_
  simp only [Act.put, List.setIfInBounds_toArray, List.set_cons_zero, List.set_cons_succ]
  refine Tree.p_loadmid rfl _ _ rfl b 256 rfl (arr .u8 256 fun i => ((U i : Nat) : Int)).toList (Sg.range O6.out hU) Tryz.underlying99 rfl (by rw [arr_toList]; exact info256) ?_
  simp only [Act.put, List.setIfInBounds_toArray, List.set_cons_zero, List.set_cons_succ, Array.toArray_toList]
  refine p_lit4 rfl 22 5 _ _ _ _ rfl .u8 14 9 13 11 rfl rfl rfl rfl Tryz.underlying22 a1 a2 a3 ?_
  simp only [Act.put, List.setIfInBounds_toArray, List.set_cons_zero, List.set_cons_succ]
  have oc := heap_alloc_new w7 (.cells #[.int .u8 14, .int .u8 9, .int .u8 13, .int .u8 11] 5)
  have bc := (Below.refl w7.heap.size w7).alloc (Nat.le_refl _) (.cells #[.int .u8 14, .int .u8 9, .int .u8 13, .int .u8 11] 5)
  skip
  generalize w7.alloc (.cells #[.int .u8 14, .int .u8 9, .int .u8 13, .int .u8 11] 5) = w8 at *
  have O6a := Lib.hid ((bc.block b (Array.getElem?_eq_some_iff.1 O6.out).1).trans O6.out)
  have B6a := Lib.hid (B6.out.trans (bc.mono B6.out.size))
  refine Step.p_wp rfl (Step.w_callx 148 [.tmp 26, .tmp 27] _ rfl Tryz.func148 (by kernel_rfl) rfl [.agg (arr .u8 256 fun i => ((U i : Nat) : Int)), .slice (some ⟨w7.heap.size, 0, none⟩) 4 4] rfl (products_any U mD U_byt mD_b w7.heap.size 0 4 w8 (fun d hd => by rw [cell_of_row _ _ (0 + d) _ _ _ oc]; rcases (by omega : d = 0 ∨ d = 1 ∨ d = 2 ∨ d = 3) with rfl | rfl | rfl | rfl <;> rfl)) ?_)
  rintro e w9 ⟨rfl, hb⟩
  refine ⟨_, rfl, ?_⟩
  simp only [Act.put, List.setIfInBounds_toArray, List.set_cons_zero, List.set_cons_succ]
  have O6b := Lib.hid ((hb.block b (Array.getElem?_eq_some_iff.1 O6a.out).1).trans O6a.out)
  have B6b := Lib.hid (B6a.out.trans (hb.mono B6a.out.size))
  clear hb oc bc
  refine Step.p_val rfl (.pointer (some ⟨b, 0, none⟩)) (by unfold execOp; go_simp) ?_
  simp only [Act.put, List.setIfInBounds_toArray, List.set_cons_zero, List.set_cons_succ]
  refine Tree.p_field rfl _ _ _ rfl (b) (0) rfl Tryz.underlying196 rfl (sz := 1024) (by kernel_rfl) (by decide) (1536) rfl ?_
  simp only [Act.put, List.setIfInBounds_toArray, List.set_cons_zero, List.set_cons_succ]
  refine Tree.p_storemid rfl 194 _ _ rfl b 1536 rfl (arr .u32 1024 fun x => ((tabW U mD x : Nat) : Int)) rfl (by rw [arr_size]; exact info1024) (arr_one' _ _ _) O6b.out (by rw [arr_size, hsz]; decide) ?_
  refine wpList_nil ?_
  simp only [Act.put]
  have oN := setRow_heap w9 b C6 (Tree.patch C6 1536 (arr .u32 1024 fun x => ((tabW U mD x : Nat) : Int)).toList) _ _ O6b.out
  have bN : Below w.heap.size w (w9.setRow b (Tree.patch C6 1536 (arr .u32 1024 fun x => ((tabW U mD x : Nat) : Int)).toList)) := B6b.out.grown (show w9.grownBy (w9.setRow b (Tree.patch C6 1536 (arr .u32 1024 fun x => ((tabW U mD x : Nat) : Int)).toList)) (some b) from ⟨rfl, rfl, rfl, by simp, fun k hk hne => setRow_other _ _ _ _ (fun e => hne (by rw [e]))⟩) B6b.out.size (fun k hk => by cases hk; exact ge)
  have hlN : 1536 + (arr .u32 1024 fun x => ((tabW U mD x : Nat) : Int)).toList.length ≤ C6.size := by rw [arr_toList, hsz]; decide
  have szN := Tree.patch_size C6 1536 (arr .u32 1024 fun x => ((tabW U mD x : Nat) : Int)).toList hlN
  have hD : Sg (Tree.patch C6 1536 (arr .u32 1024 fun x => ((tabW U mD x : Nat) : Int)).toList) 1536 .u32 1024 (fun x => (tabW U mD x : Nat)) := Sg.patched C6 1536 .u32 1024 _ (by rw [hsz]; decide)
  have hSN := Sg.kept (vs := (arr .u32 1024 fun x => ((tabW U mD x : Nat) : Int)).toList) hS hlN (by rw [arr_toList]; decide)
  clear hS
  have hUN := Sg.kept (vs := (arr .u32 1024 fun x => ((tabW U mD x : Nat) : Int)).toList) hU hlN (by rw [arr_toList]; decide)
  clear hU
  have hEN := Sg.kept (vs := (arr .u32 1024 fun x => ((tabW U mD x : Nat) : Int)).toList) hE hlN (by rw [arr_toList]; decide)
  clear hE
  generalize Tree.patch C6 1536 (arr .u32 1024 fun x => ((tabW U mD x : Nat) : Int)).toList = C9 at *
  generalize w9.setRow b C9 = wT at *
  have O9 := Lib.hid oN
  have B9 := Lib.hid bN
  replace hsz : C9.size = 2560 := szN.trans hsz
  clear oN bN hlN szN
  have hS := hSN
  clear hSN
  have hU := hUN
  clear hUN
  have hE := hEN
  clear hEN
  go_wp2
  go_ret
  exact ⟨b, rfl, ge, ⟨C9, O9.out, hsz, hS, hU, hE, hD⟩, B9.out⟩
end Go.Proofs.YtcgjhjijfhgclaaGreatDoor.Rj
