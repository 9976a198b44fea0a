/- Parts of the proof of TweakBlocks. Between: tweak.between: a block between two additions of a tweak. Cut: tweak.cut, get, put: a sector's blocks. Benbi: tweak.fromBenbi: a block's number, highest byte first. Tab0: The tables of names, modes and sizes: the program's and the document's; what the package's variables hold. -/
import Derived.Test.YtmifebcaifbmoaaGreatDoorL00
import Derived.Test.YtmifebcaifbmoaaGreatDoorL12
import Derived.Laws.CopyRow
import Derived.Ground.NamesProg
import Derived.Ground.Names7Prog
import Derived.Shelf.Bits.Mul64
import Derived.Shelf.Spec.BitsCarry
import Derived.Test.YtmifebcaifbmoaaGreatDoorL01
import Derived.Deep.WholeRow
/- Between -/
section
namespace Go.Proofs.YtmifebcaifbmoaaGreatDoor.Tw
open Go.RowKit Go.Lib Go.Proofs.YtmifebcaifbmoaaGreatDoor.Blk Go.Proofs.YtmifebcaifbmoaaGreatDoor.Aes Go.Proofs.YtmifebcaifbmoaaGreatDoor.Rj Go.Proofs.YtmifebcaifbmoaaGreatDoor.Field Go.Proofs.YtmifebcaifbmoaaGreatDoor.Poly

/-- what function f does with a key v and a block, from w on -/
def DoAt (f : FuncId) (v : Value) (F : Nat → Nat) (w : World) : Prop := ∀ n, n < 2 ^ 128 → ∀ w', Below w.heap.size w w' → Calls Tryz.prog f #[v, B16 n] w' fun e w2 => e = .returned (B16 (F n)) ∧ Below w'.heap.size w' w2
theorem DoAt.below {f : FuncId} {v : Value} {F : Nat → Nat} {w w' : World} (h : DoAt f v F w) (hb : Below w.heap.size w w') : DoAt f v F w' := fun n hn w2 h2 => h n hn w2 (hb.trans (h2.mono hb.size))
theorem doAt_code {key : Nat → Nat} {nk : Nat} {v : Value} {w : World} (h : Sched key nk v w) : DoAt 106 v (keyE key nk) w := fun n _ w' hb => code_any key nk v n w' (h.below hb)
structure BtA (f g : Nat → Int) (B : Nat) (w w' : World) : Prop where
  a : Arr w' B .u8 16 27 f
  b : Arr w' (B + 1) .u8 16 27 g
  bel : Below B w w'
structure BtW (f g h : Nat → Int) (B : Nat) (w w' : World) : Prop extends BtA f g B w w' where
  z : Arr w' (B + 1 + 1) .u8 16 27 h
theorem BtW.next {f g h : Nat → Int} {B : Nat} {w w1 w2 : World} (H : BtW f g h B w w1) (hb : Below w1.heap.size w1 w2) : BtW f g h B w w2 :=
  ⟨⟨bel_arr (_B := 0) H.a hb, bel_arr (_B := 0) H.b hb, H.bel.trans (hb.mono (by have := H.a.lt; omega))⟩, bel_arr (_B := 0) H.z hb⟩
theorem BtW.drew {f g h : Nat → Int} {B : Nat} {w w1 : World} (H : BtW f g h B w w1) : BtW f g h B w w1.drew := ⟨⟨H.a, H.b, H.bel.drew⟩, H.z⟩

set_option maxRecDepth 100000 in
set_option maxHeartbeats 8000000 in
theorem between1_any (f : FuncId) {fn : Func} (hfn : Tryz.prog.funcs[f]? = some fn) (hnn : (fn.name == "runtime.NumGoroutine") = false) (hbn : fn.body.isNone = false) (k : Value) (F : Nat → Nat) (b t fb : Nat) (hb : b < 2 ^ 128) (ht : t < 2 ^ 128) (w : World) (hD : DoAt f k F w) (hf : w.cell? ⟨fb, 0, none⟩ = some (.func (.func f) #[] #[])) :
    Calls Tryz.prog 167 #[k, B16 b, B16 t, .pointer (some ⟨fb, 0, none⟩)] w fun e w' => e = .returned (B16 (F (b ^^^ t) ^^^ t)) ∧ Below w.heap.size w w' := by
  have z16 : (Tryz.prog.info? 27).bind (·.zero) = some (.agg (arr .u8 16 fun _ => 0)) := by kernel_rfl
  have hx : b ^^^ t < 2 ^ 128 := Nat.xor_lt_two_pow hb ht
  have HD := Lib.hid (fun w' h => hD (b ^^^ t) hx w' h)
  have HF := Lib.hid hf
  have XR := Lib.hid (fun a b w => xor_num a b w)
  clear hD hf hb ht hx
  go_enter Tryz.func167, Tryz.ntmps167
  go_upto_region 0 with fail
  refine wp_region_lit ?_
  refine New.p_box rfl 27 _ rfl .u8 16 (fun i => ((byt b i : Nat) : Int)) rfl ?_
  intro w1 a1 g1 s1
  simp only [Act.put, sA9, sB9, sC9]
  refine New.p_box rfl 27 _ rfl .u8 16 (fun i => ((byt t i : Nat) : Int)) rfl ?_
  intro w2 a2 g2 s2
  simp only [Act.put, sA9, sB9, sC9]
  refine New.p_newarr rfl 27 rfl .u8 16 z16 ?_
  intro w3 a3 g3 s3
  refine wpList_nil ?_
  simp only [Act.put, sA9, sB9, sC9]
  rw [s2] at a3 s3 ⊢
  rw [s1] at a2 a3 s3 ⊢
  have E3 : Hid (BtW (fun i => ((byt b i : Nat) : Int)) (fun i => ((byt t i : Nat) : Int)) (fun _ => 0) w.heap.size w w3) := Lib.hid ⟨⟨bel_arr (_B := 0) (bel_arr (_B := 0) a1 (bel_of_gb (_B := 0) g2)) (bel_of_gb (_B := 0) g3), bel_arr (_B := 0) a2 (bel_of_gb (_B := 0) g3), (((Below.refl w.heap.size w).grown g1 (Nat.le_refl _) (by simp)).grown g2 (by omega) (by simp)).grown g3 (by omega) (by simp)⟩, a3⟩
  clear a1 g1 s1 a2 g2 s2 a3 g3 s3
  go_upto_region 1 with fail
  refine Step.begin_ (S := fun w' => BtA (fun i => ((byt b i : Nat) : Int)) (fun i => ((byt t i : Nat) : Int)) w.heap.size w w') 9 rfl (by kernel_rfl) E3.out.drew.toBtA ?_
  intro hS
  have SX := Lib.hid hS
  have S3 := Lib.hid E3.out.drew
  clear hS
  refine Tree.t_load1 (i := 0) rfl rfl (by kernel_rfl) (by kernel_rfl) (by kernel_rfl) SX.out _ _ rfl fb 0 rfl (.func (.func f) #[] #[]) (fun w' hw' => (hw'.bel.cell (p := ⟨fb, 0, none⟩) (Frame.block_lt HF.out)).trans HF.out) Tryz.underlying158 rfl ?_
  simp only [Act.put, sA9, sB9, sC9]
  refine Step.t_move (i := 1) rfl rfl (by kernel_rfl) (by kernel_rfl) (by kernel_rfl) SX.out _ rfl k rfl ?_
  simp only [Act.put, sA9, sB9, sC9]
  refine Step.t_load (i := 2) rfl rfl (by kernel_rfl) (by kernel_rfl) (by kernel_rfl) SX.out _ _ rfl _ rfl (fun w' hw' => hw'.a) Tryz.underlying27 rfl Field.info16 ?_
  simp only [Act.put, sA9, sB9, sC9]
  refine Step.t_load (i := 3) rfl rfl (by kernel_rfl) (by kernel_rfl) (by kernel_rfl) SX.out _ _ rfl _ rfl (fun w' hw' => hw'.b) Tryz.underlying27 rfl Field.info16 ?_
  simp only [Act.put, sA9, sB9, sC9]
  refine Step.t_load (i := 6) rfl rfl (by kernel_rfl) (by kernel_rfl) (by kernel_rfl) SX.out _ _ rfl _ rfl (fun w' hw' => hw'.b) Tryz.underlying27 rfl Field.info16 ?_
  simp only [Act.put, sA9, sB9, sC9]
  refine Step.t_one (i := 4) rfl rfl (by kernel_rfl) ?_
  refine Step.w_callx 55 _ _ rfl Tryz.func55 (by kernel_rfl) rfl _ rfl (XR.out b t _) ?_
  rintro e w4 ⟨rfl, hb⟩
  refine ⟨_, rfl, (S3.out.next hb).toBtA, ?_⟩
  have S4 := Lib.hid (S3.out.next hb)
  clear hb S3
  simp only [Act.put, sA9, sB9, sC9]
  refine Step.t_one (i := 5) rfl rfl (by kernel_rfl) ?_
  refine Step.w_callv _ _ _ rfl f [] rfl hfn hnn hbn [k, B16 (b ^^^ t)] rfl (HD.out _ S4.out.bel) ?_
  rintro e w5 ⟨rfl, hb⟩
  refine ⟨_, rfl, (S4.out.next hb).toBtA, ?_⟩
  have S5 := Lib.hid (S4.out.next hb)
  clear hb S4
  simp only [Act.put, sA9, sB9, sC9]
  refine Step.t_one (i := 7) rfl rfl (by kernel_rfl) ?_
  refine Step.w_callx 55 _ _ rfl Tryz.func55 (by kernel_rfl) rfl _ rfl (XR.out (F (b ^^^ t)) t _) ?_
  rintro e w6 ⟨rfl, hb⟩
  refine ⟨_, rfl, (S5.out.next hb).toBtA, ?_⟩
  have S6 := Lib.hid (S5.out.next hb)
  clear hb S5
  simp only [Act.put, sA9, sB9, sC9]
  refine Step.t_one (i := 8) rfl rfl (by kernel_rfl) ?_
  refine wp_store_row 27 _ _ rfl (w.heap.size + 1 + 1) _ rfl rfl _ _ S6.out.z (by rw [arr_size]; exact Field.info16) (by rw [arr_size, arr_size]) (arr_one _ _ _) ?_
  have hA := Arr_of_row (f := fun i => ((byt (F (b ^^^ t) ^^^ t) i : Nat) : Int)) S6.out.z
  have hG := gb_setRow w6 (w.heap.size + 1 + 1) (arr .u8 16 fun i => ((byt (F (b ^^^ t) ^^^ t) i : Nat) : Int))
  generalize w6.setRow (w.heap.size + 1 + 1) (arr .u8 16 fun i => ((byt (F (b ^^^ t) ^^^ t) i : Nat) : Int)) = w7 at *
  have BL := Lib.hid (S6.out.bel.grown hG (by have := S6.out.a.lt; omega) (fun j hj => by cases hj; omega))
  refine ⟨⟨S6.out.a.grown hG (by omega), S6.out.b.grown hG (by omega), BL.out⟩, ?_⟩
  simp only [Act.put]
  refine Step.t_end (by kernel_rfl) ?_
  clear hG
  go_wp2
  exact ret_arr rfl rfl hA Tryz.underlying27 rfl Field.info16 rfl ⟨rfl, BL.out⟩

set_option maxHeartbeats 1000000 in
theorem between_any (f : FuncId) (w : World) : Calls Tryz.prog 133 #[.func (.func f) #[] #[]] w fun e w' => e = .returned (.func (.func 167) #[] #[.pointer (some ⟨w.heap.size, 0, none⟩)]) ∧ w'.cell? ⟨w.heap.size, 0, none⟩ = some (.func (.func f) #[] #[]) ∧ Below w.heap.size w w' := by
  have hmf : ∀ (fn : Fn) (first cap : Array Value) (w : World), (Instr.makeFunc fn first cap).run Tryz.prog w = .ok (.func fn first cap) w := fun _ _ _ _ => by simp [Instr.makeFunc]
  have HB := Lib.hid ((Below.refl w.heap.size w).alloc (Nat.le_refl _) (.cells #[.func (.func f) #[] #[]] 158))
  have HN := Lib.hid (heap_alloc_new w (.cells #[.func (.func f) #[] #[]] 158))
  go_enter Tryz.func133, Tryz.ntmps133
  go_wp2
  go_ret
  exact ⟨rfl, by rw [cell_of_row _ _ _ _ _ _ HN.out]; rfl, HB.out⟩
end Go.Proofs.YtmifebcaifbmoaaGreatDoor.Tw
end

/- Cut -/
section
namespace Go.Proofs.YtmifebcaifbmoaaGreatDoor.Tw
open Go.RowKit Go.Lib Go.Proofs.YtmifebcaifbmoaaGreatDoor.Blk Go.Proofs.YtmifebcaifbmoaaGreatDoor.Aes Go.Proofs.YtmifebcaifbmoaaGreatDoor.Rj Go.Proofs.YtmifebcaifbmoaaGreatDoor.Field Go.Proofs.YtmifebcaifbmoaaGreatDoor.Poly

section
variable {P : Program} {a : Act} {w : World} {o : Oper} {K : Act → World → Prop} {Q : Exit → Act → World → Prop}
/-- copy onto a part of a row -/
theorem w_copy (dT sT elem : TypeId) (x y : Operand) (ho : o.op = .call { callee := .builtin .copy, args := #[x, y], argTypes := #[dT, sT] }) (hu : P.underlying dT = some (.slice elem)) (hs : (P.info? elem).map (·.size) = some 1)
    (g off dLen dCap : Nat) (hx : a.eval x = .slice (some ⟨g, off, none⟩) dLen dCap) (ad : Addr) (sLen sCap : Nat) (hy : a.eval y = .slice (some ad) sLen sCap) (cs : List Value) {cur : Array Value} {t : TypeId} (hg : w.heap[g]? = some (.cells cur t (0, 0))) (hn : cs.length = Nat.min sLen dLen)
    (hsrc : ∀ j v, cs[j]? = some v → w.cell? (ad.add j) = some v) (hfit : off + cs.length ≤ cur.size) (h1 : ∀ v ∈ cs, v.oneCell' = true) (h : K (a.put o.dst (.int .i64 cs.length)) (w.setRow g (Tree.patch cur off cs))) : o.wp P a w K Q := by
  unfold Oper.wp execOp
  simp only [ho, resolve, invoke, builtin, Sem.run_bind, Sem.run_pure, Result.andThen_ok, List.map_toArray, List.map_cons, List.map_nil, hx, hy, run_copy_row P w dT sT o.type elem g off dLen dCap ad sLen sCap cur t cs hu hs hg hn hsrc hfit h1]
  exact h
end
/-- the bytes f of a sector, in block g -/
structure Sec (w : World) (g n : Nat) (f : Nat → Nat) : Prop where
  c : ∃ cur, w.heap[g]? = some (.cells cur 5 (0, 0)) ∧ n ≤ cur.size ∧ ∀ i, i < n → cur[i]? = some (.int .u8 (f i : Nat))
theorem Sec.lt {w : World} {g n : Nat} {f : Nat → Nat} (h : Sec w g n f) : g < w.heap.size := by
  obtain ⟨cur, h1, _⟩ := h
  exact (Array.getElem?_eq_some_iff.1 h1).1
theorem Sec.cell {w : World} {g n : Nat} {f : Nat → Nat} (h : Sec w g n f) {i : Nat} (hi : i < n) : w.cell? ⟨g, i, none⟩ = some (.int .u8 (f i : Nat)) := by
  obtain ⟨cur, h1, _, h3⟩ := h
  rw [cell_of_row w g i _ _ _ h1]
  exact h3 i hi
theorem Sec.below {w w' : World} {g n : Nat} {f : Nat → Nat} (h : Sec w g n f) (hb : Below w.heap.size w w') : Sec w' g n f := by
  have hl := h.lt
  obtain ⟨cur, h1, h2⟩ := h
  exact ⟨cur, (hb.block g hl).trans h1, h2⟩
theorem Sec.congr {w : World} {g n : Nat} {f f' : Nat → Nat} (h : Sec w g n f) (e : ∀ i, i < n → f i = f' i) : Sec w g n f' := by
  obtain ⟨cur, h1, h2, h3⟩ := h
  exact ⟨cur, h1, h2, fun i hi => by rw [← e i hi]; exact h3 i hi⟩
/-- block j as a number -/
def blkN (f : Nat → Nat) (j : Nat) : Nat := lowN (fun i => f (16 * j + i)) 16
theorem byt_blk {f : Nat → Nat} (hf : ∀ i, f i < 256) (j i : Nat) (hi : i < 16) : byt (blkN f j) i = f (16 * j + i) := byt_lowN (fun _ => hf _) hi
theorem blkN_lt {f : Nat → Nat} (hf : ∀ i, f i < 256) (j : Nat) : blkN f j < 2 ^ 128 := lowN_lt _ (fun _ => hf _) 16
/-- a block put at its place -/
def putF (f : Nat → Nat) (j x i : Nat) : Nat := if 16 * j ≤ i ∧ i < 16 * j + 16 then byt x (i - 16 * j) else f i
theorem putF_lt {f : Nat → Nat} (hf : ∀ i, f i < 256) (j x i : Nat) : putF f j x i < 256 := by
  unfold putF
  split
  · exact byt_lt _ _
  · exact hf i
theorem blk_get (n : Nat) : ∀ i v, (arr .u8 16 fun i => ((byt n i : Nat) : Int)).toList[i]? = some v → i < 16 ∧ v = .int .u8 (byt n i : Nat) := fun i v h => by
  have hl : i < 16 := by
    have := (List.getElem?_eq_some_iff.1 h).1
    simpa [arr_size] using this
  refine ⟨hl, ?_⟩
  rw [Array.getElem?_toList, arr_get .u8 16 _ i hl] at h
  exact (Option.some.inj h).symm

theorem patch_sec {cur : Array Value} {f : Nat → Nat} {n j x : Nat} (hj : 16 * j + 16 ≤ n) (hsz : n ≤ cur.size) (hcs : ∀ i, i < n → cur[i]? = some (.int .u8 (f i : Nat))) (i : Nat) (hi : i < n) :
    (Tree.patch cur (0 + 16 * j) (arr .u8 16 fun i => ((byt x i : Nat) : Int)).toList)[i]? = some (.int .u8 (putF f j x i : Nat)) := by
  have hl : (arr .u8 16 fun i => ((byt x i : Nat) : Int)).toList.length = 16 := by rw [Array.length_toList, arr_size]
  have ht : (cur.toList.take (16 * j)).length = 16 * j := by simp; omega
  rw [← Array.getElem?_toList, Tree.patch, Nat.zero_add, List.toList_toArray]
  unfold putF
  by_cases h1 : i < 16 * j
  · rw [List.append_assoc, List.getElem?_append_left (by omega), List.getElem?_take, if_pos h1, Array.getElem?_toList, hcs i hi, if_neg (by omega)]
  · by_cases h2 : i < 16 * j + 16
    · rw [List.append_assoc, List.getElem?_append_right (by omega), List.getElem?_append_left (by omega), ht, Array.getElem?_toList, arr_get .u8 16 _ _ (by omega), if_pos (by omega)]
    · rw [List.getElem?_append_right (by rw [List.length_append]; omega), List.length_append, hl, ht, List.getElem?_drop, show 16 * j + 16 + (i - (16 * j + 16)) = i by omega, Array.getElem?_toList, hcs i hi, if_neg (by omega)]

set_option maxHeartbeats 1000000 in
theorem cut_any (g off n cap j : Nat) (hj : 16 * j + 16 ≤ n) (hn : n ≤ cap) (hc : cap ≤ 9223372036854775807) (w : World) : Calls Tryz.prog 156 #[.slice (some ⟨g, off, none⟩) n cap, .int .i64 j] w fun e w' => e = .returned (.slice (some ⟨g, off + 16 * j, none⟩) 16 16) ∧ w = w' := by
  go_enter Tryz.func156, Tryz.ntmps156
  go_wp2
  rw [show 16 * j + 16 - 16 * j = 16 by omega]
  go_ret
  exact ⟨rfl, rfl⟩

set_option maxRecDepth 100000 in
set_option maxHeartbeats 2000000 in
theorem get_any (g n cap j : Nat) (f : Nat → Nat) (hf : ∀ i, f i < 256) (hj : 16 * j + 16 ≤ n) (hn : n ≤ cap) (hc : cap ≤ 9223372036854775807) (w : World) (hS : Sec w g n f) : Calls Tryz.prog 107 #[.slice (some ⟨g, 0, none⟩) n cap, .int .i64 j] w fun e w' => e = .returned (B16 (blkN f j)) ∧ Below w.heap.size w w' := by
  have z16 : (Tryz.prog.info? 27).bind (·.zero) = some (.agg (arr .u8 16 fun _ => 0)) := by kernel_rfl
  have CU := Lib.hid (fun w => cut_any g 0 n cap j hj hn hc w)
  have HS := Lib.hid hS
  have RG : Hid (∀ w', Below w.heap.size w w' → w'.rangeAt g (0 + 16 * j) (arr .u8 16 fun i => ((byt (blkN f j) i : Nat) : Int)).toList) := Lib.hid fun w' hb i v hv => by
    obtain ⟨hi, rfl⟩ := blk_get _ i v hv
    rw [byt_blk hf j i hi, Nat.zero_add]
    exact (HS.out.below hb).cell (by omega)
  clear hS
  go_enter Tryz.func107, Tryz.ntmps107
  go_upto_region 0 with fail
  refine wp_region_lit ?_
  refine New.p_newarr rfl 27 rfl .u8 16 z16 ?_
  intro w1 a1 g1 s1
  simp only [Act.put, sA9, sB9, sC9]
  refine wpList_nil ?_
  have A1 := Lib.hid a1
  have B1 := Lib.hid ((Below.refl w.heap.size w).grown g1 (Nat.le_refl _) (by simp))
  clear a1 g1 s1
  go_upto_region 1 with fail
  refine wp_region_lit ?_
  refine Step.p_move rfl _ rfl (.slice (some ⟨g, 0, none⟩) n cap) rfl ?_
  simp only [Act.put, sA9, sB9, sC9]
  refine Step.p_move rfl _ rfl (.int .i64 j) rfl ?_
  simp only [Act.put, sA9, sB9, sC9]
  refine Step.p_wp rfl (Step.w_callx 156 [.tmp 5, .tmp 6] _ rfl Tryz.func156 (by kernel_rfl) rfl [.slice (some ⟨g, 0, none⟩) n cap, .int .i64 j] rfl (CU.out _) ?_)
  rintro e w2 ⟨rfl, rfl⟩
  refine ⟨_, rfl, ?_⟩
  simp only [Act.put, sA9, sB9, sC9]
  refine Step.p_val rfl (.pointer (some ⟨g, 0 + 16 * j, none⟩)) (by unfold execOp; go_simp; simp [Instr.arrayAt, run_underlying Tryz.underlying27]) ?_
  simp only [Act.put, sA9, sB9, sC9]
  refine Step.p_load_mid rfl 27 _ rfl g (0 + 16 * j) rfl (RG.out _ B1.out) Tryz.underlying27 rfl Field.info16 ?_
  simp only [Act.put, sA9, sB9, sC9]
  refine Step.p_store 27 _ _ rfl w.heap.size rfl rfl A1.out Field.info16 rfl ?_
  intro w5 a5 g5 s5
  simp only [Act.put]
  refine wpList_nil ?_
  have B5 := Lib.hid (B1.out.grown g5 B1.out.size (fun j hj => by cases hj; exact Nat.le_refl _))
  clear g5
  go_wp2
  exact ret_arr rfl rfl a5 Tryz.underlying27 rfl Field.info16 rfl ⟨rfl, B5.out⟩

set_option maxRecDepth 100000 in
set_option maxHeartbeats 2000000 in
theorem put_any (g n cap j x : Nat) (f : Nat → Nat) (hj : 16 * j + 16 ≤ n) (hn : n ≤ cap) (hc : cap ≤ 9223372036854775807) (w : World) (hS : Sec w g n f) : Calls Tryz.prog 105 #[.slice (some ⟨g, 0, none⟩) n cap, .int .i64 j, B16 x] w fun e w' => e = .returned (.tuple #[]) ∧ Sec w' g n (putF f j x) ∧ w.grownBy w' (some g) := by
  have CU := Lib.hid (fun w => cut_any g 0 n cap j hj hn hc w)
  have HS := Lib.hid hS
  clear hS
  go_enter Tryz.func105, Tryz.ntmps105
  go_upto_region 0 with fail
  refine wp_region_lit ?_
  refine New.p_box rfl 27 _ rfl .u8 16 (fun i => ((byt x i : Nat) : Int)) rfl ?_
  intro w1 a1 g1 s1
  simp only [Act.put, sA9, sB9, sC9]
  refine wpList_nil ?_
  have A1 := Lib.hid a1
  have G1 := Lib.hid g1
  have S1 := Lib.hid (HS.out.below ((Below.refl w.heap.size w).grown g1 (Nat.le_refl _) (by simp)))
  have hgl := HS.out.lt
  clear a1 g1 s1 HS
  go_upto_region 1 with fail
  refine Step.begin_ (S := fun _ => True) 5 rfl (by kernel_rfl) trivial ?_
  intro _
  refine Step.t_move (i := 0) rfl rfl (by kernel_rfl) (by kernel_rfl) (by kernel_rfl) trivial _ rfl (.slice (some ⟨g, 0, none⟩) n cap) rfl ?_
  simp only [Act.put, sA9, sB9, sC9]
  refine Step.t_move (i := 1) rfl rfl (by kernel_rfl) (by kernel_rfl) (by kernel_rfl) trivial _ rfl (.int .i64 j) rfl ?_
  simp only [Act.put, sA9, sB9, sC9]
  refine Step.t_val (i := 3) rfl rfl (by kernel_rfl) (by kernel_rfl) (by kernel_rfl) trivial (.slice (some ⟨w.heap.size, 0, none⟩) 16 16) (fun w' _ => by unfold execOp; go_simp) ?_
  simp only [Act.put, sA9, sB9, sC9]
  refine Step.t_one (i := 2) rfl rfl (by kernel_rfl) ?_
  refine Step.w_callx 156 _ _ rfl Tryz.func156 (by kernel_rfl) rfl _ rfl (CU.out _) ?_
  rintro e w2 ⟨rfl, rfl⟩
  refine ⟨_, rfl, trivial, ?_⟩
  simp only [Act.put, sA9, sB9, sC9]
  obtain ⟨cur, hcur, hsz, hcs⟩ := S1.out
  refine Step.t_one (i := 4) rfl rfl (by kernel_rfl) ?_
  refine w_copy 22 22 5 _ _ rfl Tryz.underlying22 (by kernel_rfl) g (0 + 16 * j) 16 16 rfl ⟨w.heap.size, 0, none⟩ 16 16 rfl (arr .u8 16 fun i => ((byt x i : Nat) : Int)).toList (w := w1.drew) hcur (by rw [Array.length_toList, arr_size]; rfl) ?_ (by rw [Array.length_toList, arr_size]; omega) ?_ ?_
  · intro i v hv
    obtain ⟨hi, rfl⟩ := blk_get _ i v hv
    rw [Addr.add_mid, Nat.zero_add]
    exact A1.out.cell hi
  · intro v hv
    obtain ⟨i, hi⟩ := List.mem_iff_getElem?.1 hv
    obtain ⟨_, rfl⟩ := blk_get _ i v hi
    rfl
  refine ⟨trivial, ?_⟩
  simp only [Act.put, sA9, sB9, sC9]
  have hG : Hid (w.grownBy (w1.drew.setRow g (Tree.patch cur (0 + 16 * j) (arr .u8 16 fun i => ((byt x i : Nat) : Int)).toList)) (some g)) := Lib.hid ⟨G1.out.os, G1.out.tape, G1.out.output, by simpa using G1.out.size, fun b hb hne => (setRow_other _ g b _ (fun e => hne (by rw [e]))).trans (G1.out.block b hb (by simp))⟩
  have hA : Hid (Sec (w1.drew.setRow g (Tree.patch cur (0 + 16 * j) (arr .u8 16 fun i => ((byt x i : Nat) : Int)).toList)) g n (putF f j x)) := Lib.hid ⟨_, setRow_heap _ g cur _ _ _ hcur, by rw [Tree.patch_size _ _ _ (by rw [Array.length_toList, arr_size]; omega)]; exact hsz, fun i hi => patch_sec hj hsz hcs i hi⟩
  generalize w1.drew.setRow g (Tree.patch cur (0 + 16 * j) (arr .u8 16 fun i => ((byt x i : Nat) : Int)).toList) = w6 at *
  refine Step.t_end (by kernel_rfl) ?_
  clear hcs
  go_wp2
  go_end0
  exact ⟨rfl, hA.out, hG.out⟩
end Go.Proofs.YtmifebcaifbmoaaGreatDoor.Tw
end

/- Benbi -/
section
namespace Go.Proofs
open Go.RowKit Go.Shelf Go.Lib

def Tryz.laysMul_ren : Go.Shelf.Ren := ⟨fun | 264 => 114 | n => n, fun | 53 => 25 | 46 => 35 | n => n, fun | n => n⟩
theorem Tryz.laysMul : Go.Proofs.Lays.n264 Tryz.prog Tryz.laysMul_ren := {
  mixed := by kernel_rfl
  f264 := Tryz.func114.trans (congrArg some (by kernel_rfl))
  t46 := Tryz.underlying35
  a46 := Tryz.isAgg35
  z46 := Tryz.sizeOf35
  v46 := Tryz.zeroValue35
  t53 := Tryz.underlying25
  a53 := Tryz.isAgg25
  z53 := Tryz.sizeOf25
  v53 := Tryz.zeroValue25 }
def Tryz.laysAdd_ren : Go.Shelf.Ren := ⟨fun | 25 => 115 | n => n, fun | 22 => 25 | n => n, fun | n => n⟩
theorem Tryz.laysAdd : Go.Proofs.Lays7.n25 Tryz.prog Tryz.laysAdd_ren := {
  mixed := by kernel_rfl
  f25 := Tryz.func115.trans (congrArg some (by kernel_rfl))
  t22 := Tryz.underlying25
  a22 := Tryz.isAgg25
  z22 := Tryz.sizeOf25
  v22 := Tryz.zeroValue25
  i22 := by kernel_rfl }

namespace YtmifebcaifbmoaaGreatDoor.Tw
open Go.Proofs.YtmifebcaifbmoaaGreatDoor.Blk Go.Proofs.YtmifebcaifbmoaaGreatDoor.Aes Go.Proofs.YtmifebcaifbmoaaGreatDoor.Rj Go.Proofs.YtmifebcaifbmoaaGreatDoor.Field Go.Proofs.YtmifebcaifbmoaaGreatDoor.Poly
theorem mul64_any (x y : Nat) (hx : x < 18446744073709551616) (hy : y < 18446744073709551616) (w : World) : Calls Tryz.prog 114 #[.int .u64 x, .int .u64 y] w fun e w' => e = .returned (.tuple #[.int .u64 ((x * y / 18446744073709551616 : Nat) : Int), .int .u64 ((x * y % 18446744073709551616 : Nat) : Int)]) ∧ w' = w := Any.bits_Mul64 Tryz.laysMul x y hx hy w
theorem add64_any (x y c : Nat) (hc : c ≤ 1) (w : World) : (callFunc 115 #[.int .u64 x, .int .u64 y, .int .u64 c]).run Tryz.prog w = .ok (.value (.tuple #[.int .u64 (((x + y + c) % 18446744073709551616 : Nat) : Int), .int .u64 (((x + y + c) / 18446744073709551616 : Nat) : Int)])) w := Any7.bits_Add64 Tryz.laysAdd x y c hc w

set_option maxRecDepth 100000 in
set_option maxHeartbeats 2000000 in
theorem benbi_any (c : Value) (s n : Nat) (hs : s < 2 ^ 64) (hn : n ≤ 1000000) (w : World) : Calls Tryz.prog 70 #[c, .int .u64 s, .int .i64 n] w fun e w' => e = .returned (B16 (revN (s * (n / 16) + 1))) ∧ Below w.heap.size w w' := by
  have MU := Lib.hid (fun w => mul64_any s (n / 16) (by omega) (by omega) w)
  have hP : s * (n / 16) ≤ 18446744073709551615 * 62500 := Nat.mul_le_mul (by omega) (by omega)
  generalize s * (n / 16) = p at *
  have e0 : (p / 18446744073709551616 + (p % 18446744073709551616 + 1 + 0) / 18446744073709551616) * 2 ^ 64 + (p % 18446744073709551616 + 1 + 0) % 18446744073709551616 = p + 1 := by omega
  have h1 : p / 18446744073709551616 ≤ 62500 := by omega
  have h2 : p % 18446744073709551616 < 18446744073709551616 := by omega
  have h3 : (p % 18446744073709551616 + 1 + 0) / 18446744073709551616 ≤ 1 := by omega
  have h4 : (p % 18446744073709551616 + 1 + 0) % 18446744073709551616 < 18446744073709551616 := by omega
  have AD := fun w => add64_any (p % 18446744073709551616) 1 0 (by omega) w
  generalize (p % 18446744073709551616 + 1 + 0) / 18446744073709551616 = cy at *
  generalize (p % 18446744073709551616 + 1 + 0) % 18446744073709551616 = lo at *
  generalize p / 18446744073709551616 = h at *
  generalize p % 18446744073709551616 = l at *
  have AD2 : Hid (∀ w, (callFunc 115 #[.int .u64 l, .int .u64 1, .int .u64 0]).run Tryz.prog w = .ok (.value (.tuple #[.int .u64 lo, .int .u64 cy])) w) := Lib.hid fun w => by simpa using AD w
  clear AD
  have BG := Lib.hid (fun w => big_any (h + cy) lo h4 w)
  rw [e0] at BG
  have z16 : (Tryz.prog.info? 27).bind (·.zero) = some (.agg (arr .u8 16 fun _ => 0)) := by kernel_rfl
  clear e0
  go_enter Tryz.func70, Tryz.ntmps70
  go_upto_region 0 with fail
  refine wp_region_lit ?_
  refine New.p_newarr rfl 27 rfl .u8 16 z16 ?_
  intro w1 a1 g1 s1
  simp only [Act.put, sA9, sB9, sC9]
  refine wpList_nil ?_
  have A1 := Lib.hid a1
  have B1 := Lib.hid ((Below.refl w.heap.size w).grown g1 (Nat.le_refl _) (by simp))
  clear a1 g1 s1
  go_upto_region 1 with fail
  refine wp_region_lit ?_
  refine Step.p_move rfl _ rfl (.int .u64 s) rfl ?_
  simp only [Act.put, sA9, sB9, sC9]
  refine Step.p_move rfl _ rfl (.int .i64 n) rfl ?_
  simp only [Act.put, sA9, sB9, sC9]
  refine Step.p_val rfl (.int .i64 (n / 16 : Nat)) (by unfold execOp; go_simp; first | done | exact IntWalk.i64_in _ (by omega) | omega) ?_
  simp only [Act.put, sA9, sB9, sC9]
  refine Step.p_val rfl (.int .u64 (n / 16 : Nat)) (by unfold execOp; go_simp; try (rw [IntKind.wrap_u64]; omega)) ?_
  simp only [Act.put, sA9, sB9, sC9]
  refine Step.p_wp rfl (Step.w_callx 114 [.tmp 11, .tmp 14] _ rfl Tryz.func114 (by kernel_rfl) rfl [.int .u64 s, .int .u64 (n / 16 : Nat)] rfl (MU.out _) ?_)
  rintro e w2 ⟨rfl, rfl⟩
  refine ⟨_, rfl, ?_⟩
  simp only [Act.put, sA9, sB9, sC9]
  refine Step.p_move rfl _ rfl (.tuple #[.int .u64 h, .int .u64 l]) rfl ?_
  simp only [Act.put, sA9, sB9, sC9]
  refine Step.p_val rfl (.int .u64 h) (by unfold execOp; go_simp; try rfl) ?_
  simp only [Act.put, sA9, sB9, sC9]
  refine Step.p_val rfl (.int .u64 l) (by unfold execOp; go_simp; try rfl) ?_
  simp only [Act.put, sA9, sB9, sC9]
  refine Step.p_assign rfl _ rfl (.int .u64 h) rfl ?_
  simp only [Act.put, sA9, sB9, sC9]
  refine Step.p_assign rfl _ rfl (.int .u64 l) rfl ?_
  simp only [Act.put, sA9, sB9, sC9]
  refine wpList_nil ?_
  go_upto_region 2 with fail
  refine wp_region_lit ?_
  refine Step.p_move rfl _ rfl (.int .u64 l) rfl ?_
  simp only [Act.put, sA9, sB9, sC9]
  refine Step.p_val rfl (.tuple #[.int .u64 lo, .int .u64 cy]) (by unfold execOp; simp only [resolve, Deferred.ofValue, invoke]; go_simp; rw [AD2.out]; try rfl) ?_
  simp only [Act.put, sA9, sB9, sC9]
  refine Step.p_move rfl _ rfl (.tuple #[.int .u64 lo, .int .u64 cy]) rfl ?_
  simp only [Act.put, sA9, sB9, sC9]
  refine Step.p_val rfl (.int .u64 lo) (by unfold execOp; go_simp; try rfl) ?_
  simp only [Act.put, sA9, sB9, sC9]
  refine Step.p_val rfl (.int .u64 cy) (by unfold execOp; go_simp; try rfl) ?_
  simp only [Act.put, sA9, sB9, sC9]
  refine Step.p_assign rfl _ rfl (.int .u64 lo) rfl ?_
  simp only [Act.put, sA9, sB9, sC9]
  refine Step.p_assign rfl _ rfl (.int .u64 cy) rfl ?_
  simp only [Act.put, sA9, sB9, sC9]
  refine wpList_nil ?_
  go_upto_region 3 with fail
  refine wp_region_lit ?_
  refine Step.p_move rfl _ rfl (.int .u64 h) rfl ?_
  simp only [Act.put, sA9, sB9, sC9]
  refine Step.p_move rfl _ rfl (.int .u64 cy) rfl ?_
  simp only [Act.put, sA9, sB9, sC9]
  refine Step.p_val rfl (.int .u64 (h + cy : Nat)) (by unfold execOp; go_simp; rw [IntKind.wrap_u64]; omega) ?_
  simp only [Act.put, sA9, sB9, sC9]
  refine Step.p_move rfl _ rfl (.int .u64 lo) rfl ?_
  simp only [Act.put, sA9, sB9, sC9]
  refine Step.p_wp rfl (Step.w_callx 113 [.tmp 25, .tmp 26] _ rfl Tryz.func113 (by kernel_rfl) rfl [.int .u64 (h + cy : Nat), .int .u64 lo] rfl (BG.out _) ?_)
  rintro e w3 ⟨rfl, hb⟩
  refine ⟨_, rfl, ?_⟩
  simp only [Act.put, sA9, sB9, sC9]
  have A3 := Lib.hid (bel_arr (_B := 0) A1.out hb)
  have B3 := Lib.hid (B1.out.trans (hb.mono B1.out.size))
  clear hb
  refine Step.p_store 27 _ _ rfl w.heap.size rfl rfl A3.out Field.info16 rfl ?_
  intro w5 a5 g5 s5
  simp only [Act.put]
  refine wpList_nil ?_
  have B5 := Lib.hid (B3.out.grown g5 B3.out.size (fun j hj => by cases hj; exact Nat.le_refl _))
  clear g5
  go_wp2
  exact ret_arr rfl rfl a5 Tryz.underlying27 rfl Field.info16 rfl ⟨rfl, B5.out⟩
end YtmifebcaifbmoaaGreatDoor.Tw
end Go.Proofs
end

/- Tab0 -/
section
namespace Go.Proofs.YtmifebcaifbmoaaGreatDoor.Tab
open Go.RowKit Go.Lib

/-- a name's bytes -/
def nm (k : Nat) : ByteArray := ⟨(#[#[101, 99, 98], #[99, 98, 99, 45, 110, 117, 108, 108], #[99, 98, 99, 45, 112, 108, 97, 105, 110], #[99, 98, 99, 45, 112, 108, 97, 105, 110, 54, 52], #[99, 98, 99, 45, 112, 108, 97, 105, 110, 54, 52, 98, 101],
  #[99, 98, 99, 45, 98, 101, 110, 98, 105], #[99, 98, 99, 45, 101, 115, 115, 105, 118, 58, 115, 104, 97, 50, 53, 54], #[99, 98, 99, 45, 101, 98, 111, 105, 118], #[99, 98, 99, 45, 101, 108, 101, 112, 104, 97, 110, 116], #[99, 98, 99, 45, 116, 99, 119],
  #[120, 116, 115, 45, 112, 108, 97, 105, 110], #[120, 116, 115, 45, 112, 108, 97, 105, 110, 54, 52], #[120, 116, 115, 45, 112, 108, 97, 105, 110, 54, 52, 98, 101], #[120, 116, 115, 45, 101, 115, 115, 105, 118, 58, 115, 104, 97, 50, 53, 54],
  #[108, 114, 119, 45, 98, 101, 110, 98, 105], #[104, 99, 116, 114, 50, 45, 112, 108, 97, 105, 110], #[104, 99, 116, 114, 50, 45, 112, 108, 97, 105, 110, 54, 52]] : Array (Array UInt8)).getD k #[]⟩

/-- the beginnings -/
def pre (i : Nat) : ByteArray := ⟨(#[#[97, 101, 115, 49, 50, 56, 45], #[97, 101, 115, 49, 57, 50, 45], #[97, 101, 115, 50, 53, 54, 45]] : Array (Array UInt8)).getD i #[]⟩
def null : ByteArray := ⟨#[110, 117, 108, 108]⟩
/-- name j of the list -/
def name (j : Nat) : ByteArray := if j = 0 then null else pre ((j - 1) / 17) ++ nm ((j - 1) % 17)
theorem name_at (i k : Nat) (hk : k < 17) : name (1 + 17 * i + k) = pre i ++ nm k := by
  unfold name
  rw [if_neg (by omega), show (1 + 17 * i + k - 1) / 17 = i by omega, show (1 + 17 * i + k - 1) % 17 = k by omega]
theorem pre_size : ∀ k, k < 3 → (pre k).size ≤ 16 := by decide
theorem nm_size : ∀ k, k < 17 → (nm k).size ≤ 16 := by decide
def mdT (k : Nat) : ByteArray := ⟨(#[#[101, 99, 98], #[99, 98, 99], #[99, 98, 99], #[99, 98, 99], #[99, 98, 99], #[99, 98, 99], #[99, 98, 99], #[99, 98, 99], #[101, 108, 101, 112, 104, 97, 110, 116], #[116, 99, 119], #[120, 116, 115], #[120, 116, 115], #[120, 116, 115], #[120, 116, 115], #[108, 114, 119], #[104, 99, 116, 114, 50], #[104, 99, 116, 114, 50]] : Array (Array UInt8)).getD k #[]⟩
def stT (k : Nat) : ByteArray := ⟨(#[#[], #[110, 117, 108, 108], #[112, 108, 97, 105, 110], #[112, 108, 97, 105, 110, 54, 52], #[112, 108, 97, 105, 110, 54, 52, 98, 101], #[98, 101, 110, 98, 105], #[101, 115, 115, 105, 118], #[101, 98, 111, 105, 118], #[101, 98, 111, 105, 118], #[116, 99, 119], #[112, 108, 97, 105, 110], #[112, 108, 97, 105, 110, 54, 52], #[112, 108, 97, 105, 110, 54, 52, 98, 101], #[101, 115, 115, 105, 118], #[98, 101, 110, 98, 105], #[112, 108, 97, 105, 110], #[112, 108, 97, 105, 110, 54, 52]] : Array (Array UInt8)).getD k #[]⟩
def moT (k : Nat) : Int := (#[0, 0, 0, 0, 0, 0, 0, 0, -1, 32, -1, -1, -1, -1, 16, 0, 0] : Array Int).getD k 0
theorem moT_bd : ∀ k, k < 17 → -1 ≤ moT k ∧ moT k ≤ 32 := by decide
/-- bytes of AES' key, by the beginning -/
def aesT (i : Nat) : Nat := 16 + 8 * i
/-- bytes of the whole key -/
def szT (i k : Nat) : Int := if moT k < 0 then 2 * (16 + 8 * (i : Int)) else 16 + 8 * (i : Int) + moT k
/-- row t of the document's table -/
def rowL (t : Nat) : List Value := if t = 0 then [.string null, .string null, .string ⟨#[]⟩, .int .i64 0, .int .i64 0]
  else [.string (name t), .string (mdT ((t - 1) % 17)), .string (stT ((t - 1) % 17)), .int .i64 (16 + 8 * ((t - 1) / 17 : Nat)), .int .i64 (szT ((t - 1) / 17) ((t - 1) % 17))]
theorem rowL_len (t : Nat) : (rowL t).length = 5 := by
  unfold rowL
  split <;> rfl
theorem rowL_at (i k : Nat) (hk : k < 17) : rowL (1 + 17 * i + k) = [.string (pre i ++ nm k), .string (mdT k), .string (stT k), .int .i64 (16 + 8 * (i : Int)), .int .i64 (szT i k)] := by
  unfold rowL
  rw [if_neg (by omega), show (1 + 17 * i + k - 1) / 17 = i by omega, show (1 + 17 * i + k - 1) % 17 = k by omega, name_at i k hk]
theorem info_parts' {P : Program} {e : TypeId} {z : Value} {s b : Nat} (h : (P.info? e).map (fun i => (i.zero, i.size, i.bytes)) = some (some z, s, b)) : ∃ i, P.info? e = some i ∧ i.zero = some z ∧ i.size = s ∧ i.bytes = b := by
  cases hi : P.info? e with
  | none => simp [hi] at h
  | some I =>
    simp only [hi, Option.map_some, Option.some.injEq, Prod.mk.injEq] at h
    exact ⟨I, rfl, h.1, h.2.1, h.2.2⟩

theorem own_ne {w : World} {base : Nat} {e t : TypeId} {size : Nat} {v : Value} {n : Nat} {xs : List Value} (h : w.ownsRow base e size v n xs) {g : Nat} {c : Array Value} {fz : Nat × Nat} (hc : w.heap[g]? = some (.cells c t fz)) (hne : t ≠ e) : some g ≠ v.ownBlock := by
  rcases h.2 with ⟨rfl, _⟩ | ⟨g', cap, cur, rfl, _, hgb, _⟩
  · simp [Value.ownBlock]
  · intro e'
    obtain rfl : g = g' := by simpa [Value.ownBlock] using e'
    rw [hgb] at hc
    cases hc
    exact hne rfl

theorem cell_below {w w' : World} (hb : Below w.heap.size w w') {b o : Nat} {v : Value} (hc : w.cell? ⟨b, o, none⟩ = some v) : w'.cell? ⟨b, o, none⟩ = some v := (hb.cell (p := ⟨b, o, none⟩) (Frame.block_lt hc)).trans hc
/-- the beginnings of the names and the sizes, as the program's variable holds them -/
structure Sizes (w : World) : Prop where
  h : ∃ g off cap, w.cell? ⟨0, 0, none⟩ = some (.slice (some ⟨g, off, none⟩) 3 cap) ∧ 3 ≤ cap ∧ cap ≤ maxLen ∧ ∀ i, i < 3 → w.cell? ⟨g, off + i * 2, none⟩ = some (.string (pre i)) ∧ w.cell? ⟨g, off + i * 2 + 1, none⟩ = some (.int .i64 (aesT i : Nat))
theorem Sizes.below {w w' : World} (h : Sizes w) (hb : Below w.heap.size w w') : Sizes w' := by
  obtain ⟨g, off, cap, h1, h2, h3, h4⟩ := h
  exact ⟨g, off, cap, cell_below hb h1, h2, h3, fun i hi => ⟨cell_below hb (h4 i hi).1, cell_below hb (h4 i hi).2⟩⟩
/-- the modes, as the document's variable holds them -/
structure Modes (w : World) : Prop where
  h : ∃ g off cap, w.cell? ⟨1, 0, none⟩ = some (.slice (some ⟨g, off, none⟩) 17 cap) ∧ 17 ≤ cap ∧ cap ≤ maxLen ∧ ∀ k, k < 17 → w.cell? ⟨g, off + k * 4, none⟩ = some (.string (nm k)) ∧
    w.cell? ⟨g, off + k * 4 + 1, none⟩ = some (.string (mdT k)) ∧ w.cell? ⟨g, off + k * 4 + 2, none⟩ = some (.string (stT k)) ∧ w.cell? ⟨g, off + k * 4 + 3, none⟩ = some (.int .i64 (moT k))
theorem Modes.below {w w' : World} (h : Modes w) (hb : Below w.heap.size w w') : Modes w' := by
  obtain ⟨g, off, cap, h1, h2, h3, h4⟩ := h
  exact ⟨g, off, cap, cell_below hb h1, h2, h3, fun i hi => ⟨cell_below hb (h4 i hi).1, cell_below hb (h4 i hi).2.1, cell_below hb (h4 i hi).2.2.1, cell_below hb (h4 i hi).2.2.2⟩⟩
end Go.Proofs.YtmifebcaifbmoaaGreatDoor.Tab
end
