/- tweak.between: a block between two additions of a tweak. -/
import Derived.Test.YtcgjhjijfhgclaaGreatDoorMCode
import Derived.Test.YtcgjhjijfhgclaaGreatDoorMCallv
import Derived.Laws.CopyRow
import Derived.Ground.NamesProg
import Derived.Ground.Names7Prog
import Derived.Shelf.Bits.Mul64
import Derived.Shelf.Spec.BitsCarry
namespace Go.Proofs.YtcgjhjijfhgclaaGreatDoor.Tw
open Go.RowKit Go.Lib Go.Proofs.YtcgjhjijfhgclaaGreatDoor.Blk Go.Proofs.YtcgjhjijfhgclaaGreatDoor.Aes Go.Proofs.YtcgjhjijfhgclaaGreatDoor.Rj Go.Proofs.YtcgjhjijfhgclaaGreatDoor.Field Go.Proofs.YtcgjhjijfhgclaaGreatDoor.Poly

/-- what function f does with a key v and a block, from w on -/
def DoAt (f : FuncId) (v : Value) (F : Nat → Nat) (w : World) : Prop := ∀ n, n < 2 ^ 128 → ∀ w', Below w.heap.size w w' → Calls Tryz.prog f #[v, B16 n] w' fun e w2 => e = .returned (B16 (F n)) ∧ Below w'.heap.size w' w2
theorem DoAt.below {f : FuncId} {v : Value} {F : Nat → Nat} {w w' : World} (h : DoAt f v F w) (hb : Below w.heap.size w w') : DoAt f v F w' := fun n hn w2 h2 => h n hn w2 (hb.trans (h2.mono hb.size))
theorem doAt_code {key : Nat → Nat} {nk : Nat} {v : Value} {w : World} (h : Sched key nk v w) : DoAt 72 v (keyE key nk) w := fun n _ w' hb => code_any key nk v n w' (h.below hb)
structure BtA (f g : Nat → Int) (B : Nat) (w w' : World) : Prop where
  a : Arr w' B .u8 16 27 f
  b : Arr w' (B + 1) .u8 16 27 g
  bel : Below B w w'
structure BtW (f g h : Nat → Int) (B : Nat) (w w' : World) : Prop extends BtA f g B w w' where
  z : Arr w' (B + 1 + 1) .u8 16 27 h
theorem BtW.next {f g h : Nat → Int} {B : Nat} {w w1 w2 : World} (H : BtW f g h B w w1) (hb : Below w1.heap.size w1 w2) : BtW f g h B w w2 :=
  ⟨⟨bel_arr (_B := 0) H.a hb, bel_arr (_B := 0) H.b hb, H.bel.trans (hb.mono (by have := H.a.lt; omega))⟩, bel_arr (_B := 0) H.z hb⟩
theorem BtW.drew {f g h : Nat → Int} {B : Nat} {w w1 : World} (H : BtW f g h B w w1) : BtW f g h B w w1.drew := ⟨⟨H.a, H.b, H.bel.drew⟩, H.z⟩

set_option maxRecDepth 100000 in
set_option maxHeartbeats 8000000 in
theorem between1_any (f : FuncId) {fn : Func} (hfn : Tryz.prog.funcs[f]? = some fn) (hnn : (fn.name == "runtime.NumGoroutine") = false) (hbn : fn.body.isNone = false) (k : Value) (F : Nat → Nat) (b t fb : Nat) (hb : b < 2 ^ 128) (ht : t < 2 ^ 128) (w : World) (hD : DoAt f k F w) (hf : w.cell? ⟨fb, 0, none⟩ = some (.func (.func f) #[] #[])) :
    Calls Tryz.prog 125 #[k, B16 b, B16 t, .pointer (some ⟨fb, 0, none⟩)] w fun e w' => e = .returned (B16 (F (b ^^^ t) ^^^ t)) ∧ Below w.heap.size w w' := by
  have z16 : (Tryz.prog.info? 27).bind (·.zero) = some (.agg (arr .u8 16 fun _ => 0)) := by kernel_rfl
  have hx : b ^^^ t < 2 ^ 128 := Nat.xor_lt_two_pow hb ht
  have HD := Lib.hid (fun w' h => hD (b ^^^ t) hx w' h)
  have HF := Lib.hid hf
  have XR := Lib.hid (fun a b w => xor_num a b w)
  clear hD hf hb ht hx
  go_enter Tryz.func125, Tryz.ntmps125
  go_upto_region 0 with fail
  refine wp_region_lit ?_
  refine New.p_box rfl 27 _ rfl .u8 16 (fun i => ((byt b i : Nat) : Int)) rfl ?_
  intro w1 a1 g1 s1
  simp only [Act.put, List.setIfInBounds_toArray, List.set_cons_zero, List.set_cons_succ]
  refine New.p_box rfl 27 _ rfl .u8 16 (fun i => ((byt t i : Nat) : Int)) rfl ?_
  intro w2 a2 g2 s2
  simp only [Act.put, List.setIfInBounds_toArray, List.set_cons_zero, List.set_cons_succ]
  refine New.p_newarr rfl 27 rfl .u8 16 z16 ?_
  intro w3 a3 g3 s3
  refine wpList_nil ?_
  simp only [Act.put, List.setIfInBounds_toArray, List.set_cons_zero, List.set_cons_succ]
  rw [s2] at a3 s3 ⊢
  rw [s1] at a2 a3 s3 ⊢
  have E3 : Hid (BtW (fun i => ((byt b i : Nat) : Int)) (fun i => ((byt t i : Nat) : Int)) (fun _ => 0) w.heap.size w w3) := Lib.hid ⟨⟨bel_arr (_B := 0) (bel_arr (_B := 0) a1 (bel_of_gb (_B := 0) g2)) (bel_of_gb (_B := 0) g3), bel_arr (_B := 0) a2 (bel_of_gb (_B := 0) g3), (((Below.refl w.heap.size w).grown g1 (Nat.le_refl _) (by simp)).grown g2 (by omega) (by simp)).grown g3 (by omega) (by simp)⟩, a3⟩
  clear a1 g1 s1 a2 g2 s2 a3 g3 s3
  go_upto_region 1 with fail
  refine Step.begin_ (S := fun w' => BtA (fun i => ((byt b i : Nat) : Int)) (fun i => ((byt t i : Nat) : Int)) w.heap.size w w') 9 rfl (by kernel_rfl) E3.out.drew.toBtA ?_
  intro hS
  have SX := Lib.hid hS
  have S3 := Lib.hid E3.out.drew
  clear hS
  refine Tree.t_load1 (i := 0) rfl rfl (by kernel_rfl) (by kernel_rfl) (by kernel_rfl) SX.out _ _ rfl fb 0 rfl (.func (.func f) #[] #[]) (fun w' hw' => (hw'.bel.cell (p := ⟨fb, 0, none⟩) (Frame.block_lt HF.out)).trans HF.out) Tryz.underlying113 rfl ?_
  simp only [Act.put, List.setIfInBounds_toArray, List.set_cons_zero, List.set_cons_succ]
  refine Step.t_move (i := 1) rfl rfl (by kernel_rfl) (by kernel_rfl) (by kernel_rfl) SX.out _ rfl k rfl ?_
  simp only [Act.put, List.setIfInBounds_toArray, List.set_cons_zero, List.set_cons_succ]
  refine Step.t_load (i := 2) rfl rfl (by kernel_rfl) (by kernel_rfl) (by kernel_rfl) SX.out _ _ rfl _ rfl (fun w' hw' => hw'.a) Tryz.underlying27 rfl Field.info16 ?_
  simp only [Act.put, List.setIfInBounds_toArray, List.set_cons_zero, List.set_cons_succ]
  refine Step.t_load (i := 3) rfl rfl (by kernel_rfl) (by kernel_rfl) (by kernel_rfl) SX.out _ _ rfl _ rfl (fun w' hw' => hw'.b) Tryz.underlying27 rfl Field.info16 ?_
  simp only [Act.put, List.setIfInBounds_toArray, List.set_cons_zero, List.set_cons_succ]
  refine Step.t_load (i := 6) rfl rfl (by kernel_rfl) (by kernel_rfl) (by kernel_rfl) SX.out _ _ rfl _ rfl (fun w' hw' => hw'.b) Tryz.underlying27 rfl Field.info16 ?_
  simp only [Act.put, List.setIfInBounds_toArray, List.set_cons_zero, List.set_cons_succ]
  refine Step.t_one (i := 4) rfl rfl (by kernel_rfl) ?_
  refine Step.w_callx 94 _ _ rfl Tryz.func94 (by kernel_rfl) rfl _ rfl (XR.out b t _) ?_
  rintro e w4 ⟨rfl, hb⟩
  refine ⟨_, rfl, (S3.out.next hb).toBtA, ?_⟩
  have S4 := Lib.hid (S3.out.next hb)
  clear hb S3
  simp only [Act.put, List.setIfInBounds_toArray, List.set_cons_zero, List.set_cons_succ]
  refine Step.t_one (i := 5) rfl rfl (by kernel_rfl) ?_
  refine Step.w_callv _ _ _ rfl f [] rfl hfn hnn hbn [k, B16 (b ^^^ t)] rfl (HD.out _ S4.out.bel) ?_
  rintro e w5 ⟨rfl, hb⟩
  refine ⟨_, rfl, (S4.out.next hb).toBtA, ?_⟩
  have S5 := Lib.hid (S4.out.next hb)
  clear hb S4
  simp only [Act.put, List.setIfInBounds_toArray, List.set_cons_zero, List.set_cons_succ]
  refine Step.t_one (i := 7) rfl rfl (by kernel_rfl) ?_
  refine Step.w_callx 94 _ _ rfl Tryz.func94 (by kernel_rfl) rfl _ rfl (XR.out (F (b ^^^ t)) t _) ?_
  rintro e w6 ⟨rfl, hb⟩
  refine ⟨_, rfl, (S5.out.next hb).toBtA, ?_⟩
  have S6 := Lib.hid (S5.out.next hb)
  clear hb S5
  simp only [Act.put, List.setIfInBounds_toArray, List.set_cons_zero, List.set_cons_succ]
  refine Step.t_one (i := 8) rfl rfl (by kernel_rfl) ?_
  refine wp_store_row 27 _ _ rfl (w.heap.size + 1 + 1) _ rfl rfl _ _ S6.out.z (by rw [arr_size]; exact Field.info16) (by rw [arr_size, arr_size]) (arr_one _ _ _) ?_
  have hA := Arr_of_row (f := fun i => ((byt (F (b ^^^ t) ^^^ t) i : Nat) : Int)) S6.out.z
  have hG := gb_setRow w6 (w.heap.size + 1 + 1) (arr .u8 16 fun i => ((byt (F (b ^^^ t) ^^^ t) i : Nat) : Int))
  generalize w6.setRow (w.heap.size + 1 + 1) (arr .u8 16 fun i => ((byt (F (b ^^^ t) ^^^ t) i : Nat) : Int)) = w7 at *
  have BL := Lib.hid (S6.out.bel.grown hG (by have := S6.out.a.lt; omega) (fun j hj => by cases hj; omega))
  refine ⟨⟨S6.out.a.grown hG (by omega), S6.out.b.grown hG (by omega), BL.out⟩, ?_⟩
  simp only [Act.put]
  refine Step.t_end (by kernel_rfl) ?_
  clear hG
  go_wp2
  exact ret_arr rfl rfl hA Tryz.underlying27 rfl Field.info16 rfl ⟨rfl, BL.out⟩

set_option maxHeartbeats 1000000 in
theorem between_any (f : FuncId) (w : World) : Calls Tryz.prog 101 #[.func (.func f) #[] #[]] w fun e w' => e = .returned (.func (.func 125) #[] #[.pointer (some ⟨w.heap.size, 0, none⟩)]) ∧ w'.cell? ⟨w.heap.size, 0, none⟩ = some (.func (.func f) #[] #[]) ∧ Below w.heap.size w w' := by
  have hmf : ∀ (fn : Fn) (first cap : Array Value) (w : World), (Instr.makeFunc fn first cap).run Tryz.prog w = .ok (.func fn first cap) w := fun _ _ _ _ => by simp [Instr.makeFunc]
  have HB := Lib.hid ((Below.refl w.heap.size w).alloc (Nat.le_refl _) (.cells #[.func (.func f) #[] #[]] 113))
  have HN := Lib.hid (heap_alloc_new w (.cells #[.func (.func f) #[] #[]] 113))
  go_enter Tryz.func101, Tryz.ntmps101
  go_wp2
  go_ret
  exact ⟨rfl, by rw [cell_of_row _ _ _ _ _ _ HN.out]; rfl, HB.out⟩
end Go.Proofs.YtcgjhjijfhgclaaGreatDoor.Tw

namespace Go.Proofs.YtcgjhjijfhgclaaGreatDoor.Tw
open Go.RowKit Go.Lib Go.Proofs.YtcgjhjijfhgclaaGreatDoor.Blk Go.Proofs.YtcgjhjijfhgclaaGreatDoor.Aes Go.Proofs.YtcgjhjijfhgclaaGreatDoor.Rj Go.Proofs.YtcgjhjijfhgclaaGreatDoor.Field Go.Proofs.YtcgjhjijfhgclaaGreatDoor.Poly

section
variable {P : Program} {a : Act} {w : World} {o : Oper} {K : Act → World → Prop} {Q : Exit → Act → World → Prop}
/-- copy onto a part of a row -/
theorem w_copy (dT sT elem : TypeId) (x y : Operand) (ho : o.op = .call { callee := .builtin .copy, args := #[x, y], argTypes := #[dT, sT] }) (hu : P.underlying dT = some (.slice elem)) (hs : (P.info? elem).map (·.size) = some 1)
    (g off dLen dCap : Nat) (hx : a.eval x = .slice (some ⟨g, off, none⟩) dLen dCap) (ad : Addr) (sLen sCap : Nat) (hy : a.eval y = .slice (some ad) sLen sCap) (cs : List Value) {cur : Array Value} {t : TypeId} (hg : w.heap[g]? = some (.cells cur t (0, 0))) (hn : cs.length = Nat.min sLen dLen)
    (hsrc : ∀ j v, cs[j]? = some v → w.cell? (ad.add j) = some v) (hfit : off + cs.length ≤ cur.size) (h1 : ∀ v ∈ cs, v.oneCell' = true) (h : K (a.put o.dst (.int .i64 cs.length)) (w.setRow g (Tree.patch cur off cs))) : o.wp P a w K Q := by
  unfold Oper.wp execOp
  simp only [ho, resolve, invoke, builtin, Sem.run_bind, Sem.run_pure, Result.andThen_ok, List.map_toArray, List.map_cons, List.map_nil, hx, hy, run_copy_row P w dT sT o.type elem g off dLen dCap ad sLen sCap cur t cs hu hs hg hn hsrc hfit h1]
  exact h
end
/-- the bytes f of a sector, in block g -/
structure Sec (w : World) (g n : Nat) (f : Nat → Nat) : Prop where
  c : ∃ cur, w.heap[g]? = some (.cells cur 5 (0, 0)) ∧ n ≤ cur.size ∧ ∀ i, i < n → cur[i]? = some (.int .u8 (f i : Nat))
theorem Sec.lt {w : World} {g n : Nat} {f : Nat → Nat} (h : Sec w g n f) : g < w.heap.size := by
  obtain ⟨cur, h1, _⟩ := h
  exact (Array.getElem?_eq_some_iff.1 h1).1
theorem Sec.cell {w : World} {g n : Nat} {f : Nat → Nat} (h : Sec w g n f) {i : Nat} (hi : i < n) : w.cell? ⟨g, i, none⟩ = some (.int .u8 (f i : Nat)) := by
  obtain ⟨cur, h1, _, h3⟩ := h
  rw [cell_of_row w g i _ _ _ h1]
  exact h3 i hi
theorem Sec.below {w w' : World} {g n : Nat} {f : Nat → Nat} (h : Sec w g n f) (hb : Below w.heap.size w w') : Sec w' g n f := by
  have hl := h.lt
  obtain ⟨cur, h1, h2⟩ := h
  exact ⟨cur, (hb.block g hl).trans h1, h2⟩
theorem Sec.congr {w : World} {g n : Nat} {f f' : Nat → Nat} (h : Sec w g n f) (e : ∀ i, i < n → f i = f' i) : Sec w g n f' := by
  obtain ⟨cur, h1, h2, h3⟩ := h
  exact ⟨cur, h1, h2, fun i hi => by rw [← e i hi]; exact h3 i hi⟩
/-- block j as a number -/
def blkN (f : Nat → Nat) (j : Nat) : Nat := lowN (fun i => f (16 * j + i)) 16
theorem byt_blk {f : Nat → Nat} (hf : ∀ i, f i < 256) (j i : Nat) (hi : i < 16) : byt (blkN f j) i = f (16 * j + i) := byt_lowN (fun _ => hf _) hi
theorem blkN_lt {f : Nat → Nat} (hf : ∀ i, f i < 256) (j : Nat) : blkN f j < 2 ^ 128 := lowN_lt _ (fun _ => hf _) 16
/-- a block put at its place -/
def putF (f : Nat → Nat) (j x i : Nat) : Nat := if 16 * j ≤ i ∧ i < 16 * j + 16 then byt x (i - 16 * j) else f i
theorem putF_lt {f : Nat → Nat} (hf : ∀ i, f i < 256) (j x i : Nat) : putF f j x i < 256 := by
  unfold putF
  split
  · exact byt_lt _ _
  · exact hf i
theorem blk_get (n : Nat) : ∀ i v, (arr .u8 16 fun i => ((byt n i : Nat) : Int)).toList[i]? = some v → i < 16 ∧ v = .int .u8 (byt n i : Nat) := fun i v h => by
  have hl : i < 16 := by
    have := (List.getElem?_eq_some_iff.1 h).1
    simpa [arr_size] using this
  refine ⟨hl, ?_⟩
  rw [Array.getElem?_toList, arr_get .u8 16 _ i hl] at h
  exact (Option.some.inj h).symm

theorem patch_sec {cur : Array Value} {f : Nat → Nat} {n j x : Nat} (hj : 16 * j + 16 ≤ n) (hsz : n ≤ cur.size) (hcs : ∀ i, i < n → cur[i]? = some (.int .u8 (f i : Nat))) (i : Nat) (hi : i < n) :
    (Tree.patch cur (0 + 16 * j) (arr .u8 16 fun i => ((byt x i : Nat) : Int)).toList)[i]? = some (.int .u8 (putF f j x i : Nat)) := by
  have hl : (arr .u8 16 fun i => ((byt x i : Nat) : Int)).toList.length = 16 := by rw [Array.length_toList, arr_size]
  have ht : (cur.toList.take (16 * j)).length = 16 * j := by simp; omega
  rw [← Array.getElem?_toList, Tree.patch, Nat.zero_add, List.toList_toArray]
  unfold putF
  by_cases h1 : i < 16 * j
  · rw [List.append_assoc, List.getElem?_append_left (by omega), List.getElem?_take, if_pos h1, Array.getElem?_toList, hcs i hi, if_neg (by omega)]
  · by_cases h2 : i < 16 * j + 16
    · rw [List.append_assoc, List.getElem?_append_right (by omega), List.getElem?_append_left (by omega), ht, Array.getElem?_toList, arr_get .u8 16 _ _ (by omega), if_pos (by omega)]
    · rw [List.getElem?_append_right (by rw [List.length_append]; omega), List.length_append, hl, ht, List.getElem?_drop, show 16 * j + 16 + (i - (16 * j + 16)) = i by omega, Array.getElem?_toList, hcs i hi, if_neg (by omega)]

set_option maxHeartbeats 1000000 in
theorem cut_any (g off n cap j : Nat) (hj : 16 * j + 16 ≤ n) (hn : n ≤ cap) (hc : cap ≤ 9223372036854775807) (w : World) : Calls Tryz.prog 112 #[.slice (some ⟨g, off, none⟩) n cap, .int .i64 j] w fun e w' => e = .returned (.slice (some ⟨g, off + 16 * j, none⟩) 16 16) ∧ w = w' := by
  go_enter Tryz.func112, Tryz.ntmps112
  go_wp2
  rw [show 16 * j + 16 - 16 * j = 16 by omega]
  go_ret
  exact ⟨rfl, rfl⟩

set_option maxRecDepth 100000 in
set_option maxHeartbeats 2000000 in
theorem get_any (g n cap j : Nat) (f : Nat → Nat) (hf : ∀ i, f i < 256) (hj : 16 * j + 16 ≤ n) (hn : n ≤ cap) (hc : cap ≤ 9223372036854775807) (w : World) (hS : Sec w g n f) : Calls Tryz.prog 73 #[.slice (some ⟨g, 0, none⟩) n cap, .int .i64 j] w fun e w' => e = .returned (B16 (blkN f j)) ∧ Below w.heap.size w w' := by
  have z16 : (Tryz.prog.info? 27).bind (·.zero) = some (.agg (arr .u8 16 fun _ => 0)) := by kernel_rfl
  have CU := Lib.hid (fun w => cut_any g 0 n cap j hj hn hc w)
  have HS := Lib.hid hS
  have RG : Hid (∀ w', Below w.heap.size w w' → w'.rangeAt g (0 + 16 * j) (arr .u8 16 fun i => ((byt (blkN f j) i : Nat) : Int)).toList) := Lib.hid fun w' hb i v hv => by
    obtain ⟨hi, rfl⟩ := blk_get _ i v hv
    rw [byt_blk hf j i hi, Nat.zero_add]
    exact (HS.out.below hb).cell (by omega)
  clear hS
  go_enter Tryz.func73, Tryz.ntmps73
  go_upto_region 0 with fail
  refine wp_region_lit ?_
  refine New.p_newarr rfl 27 rfl .u8 16 z16 ?_
  intro w1 a1 g1 s1
  simp only [Act.put, List.setIfInBounds_toArray, List.set_cons_zero, List.set_cons_succ]
  refine wpList_nil ?_
  have A1 := Lib.hid a1
  have B1 := Lib.hid ((Below.refl w.heap.size w).grown g1 (Nat.le_refl _) (by simp))
  clear a1 g1 s1
  go_upto_region 1 with fail
  refine wp_region_lit ?_
  refine Step.p_move rfl _ rfl (.slice (some ⟨g, 0, none⟩) n cap) rfl ?_
  simp only [Act.put, List.setIfInBounds_toArray, List.set_cons_zero, List.set_cons_succ]
  refine Step.p_move rfl _ rfl (.int .i64 j) rfl ?_
  simp only [Act.put, List.setIfInBounds_toArray, List.set_cons_zero, List.set_cons_succ]
  refine Step.p_wp rfl (Step.w_callx 112 [.tmp 5, .tmp 6] _ rfl Tryz.func112 (by kernel_rfl) rfl [.slice (some ⟨g, 0, none⟩) n cap, .int .i64 j] rfl (CU.out _) ?_)
  rintro e w2 ⟨rfl, rfl⟩
  refine ⟨_, rfl, ?_⟩
  simp only [Act.put, List.setIfInBounds_toArray, List.set_cons_zero, List.set_cons_succ]
  refine Step.p_val rfl (.pointer (some ⟨g, 0 + 16 * j, none⟩)) (by unfold execOp; go_simp; simp [Instr.arrayAt, run_underlying Tryz.underlying27]) ?_
  simp only [Act.put, List.setIfInBounds_toArray, List.set_cons_zero, List.set_cons_succ]
  refine Step.p_load_mid rfl 27 _ rfl g (0 + 16 * j) rfl (RG.out _ B1.out) Tryz.underlying27 rfl Field.info16 ?_
  simp only [Act.put, List.setIfInBounds_toArray, List.set_cons_zero, List.set_cons_succ]
  refine Step.p_store 27 _ _ rfl w.heap.size rfl rfl A1.out Field.info16 rfl ?_
  intro w5 a5 g5 s5
  simp only [Act.put]
  refine wpList_nil ?_
  have B5 := Lib.hid (B1.out.grown g5 B1.out.size (fun j hj => by cases hj; exact Nat.le_refl _))
  clear g5
  go_wp2
  exact ret_arr rfl rfl a5 Tryz.underlying27 rfl Field.info16 rfl ⟨rfl, B5.out⟩

set_option maxRecDepth 100000 in
set_option maxHeartbeats 2000000 in
theorem put_any (g n cap j x : Nat) (f : Nat → Nat) (hj : 16 * j + 16 ≤ n) (hn : n ≤ cap) (hc : cap ≤ 9223372036854775807) (w : World) (hS : Sec w g n f) : Calls Tryz.prog 71 #[.slice (some ⟨g, 0, none⟩) n cap, .int .i64 j, B16 x] w fun e w' => e = .returned (.tuple #[]) ∧ Sec w' g n (putF f j x) ∧ w.grownBy w' (some g) := by
  have CU := Lib.hid (fun w => cut_any g 0 n cap j hj hn hc w)
  have HS := Lib.hid hS
  clear hS
  go_enter Tryz.func71, Tryz.ntmps71
  go_upto_region 0 with fail
  refine wp_region_lit ?_
  refine New.p_box rfl 27 _ rfl .u8 16 (fun i => ((byt x i : Nat) : Int)) rfl ?_
  intro w1 a1 g1 s1
  simp only [Act.put, List.setIfInBounds_toArray, List.set_cons_zero, List.set_cons_succ]
  refine wpList_nil ?_
  have A1 := Lib.hid a1
  have G1 := Lib.hid g1
  have S1 := Lib.hid (HS.out.below ((Below.refl w.heap.size w).grown g1 (Nat.le_refl _) (by simp)))
  have hgl := HS.out.lt
  clear a1 g1 s1 HS
  go_upto_region 1 with fail
  refine Step.begin_ (S := fun _ => True) 5 rfl (by kernel_rfl) trivial ?_
  intro _
  refine Step.t_move (i := 0) rfl rfl (by kernel_rfl) (by kernel_rfl) (by kernel_rfl) trivial _ rfl (.slice (some ⟨g, 0, none⟩) n cap) rfl ?_
  simp only [Act.put, List.setIfInBounds_toArray, List.set_cons_zero, List.set_cons_succ]
  refine Step.t_move (i := 1) rfl rfl (by kernel_rfl) (by kernel_rfl) (by kernel_rfl) trivial _ rfl (.int .i64 j) rfl ?_
  simp only [Act.put, List.setIfInBounds_toArray, List.set_cons_zero, List.set_cons_succ]
  refine Step.t_val (i := 3) rfl rfl (by kernel_rfl) (by kernel_rfl) (by kernel_rfl) trivial (.slice (some ⟨w.heap.size, 0, none⟩) 16 16) (fun w' _ => by unfold execOp; go_simp) ?_
  simp only [Act.put, List.setIfInBounds_toArray, List.set_cons_zero, List.set_cons_succ]
  refine Step.t_one (i := 2) rfl rfl (by kernel_rfl) ?_
  refine Step.w_callx 112 _ _ rfl Tryz.func112 (by kernel_rfl) rfl _ rfl (CU.out _) ?_
  rintro e w2 ⟨rfl, rfl⟩
  refine ⟨_, rfl, trivial, ?_⟩
  simp only [Act.put, List.setIfInBounds_toArray, List.set_cons_zero, List.set_cons_succ]
  obtain ⟨cur, hcur, hsz, hcs⟩ := S1.out
  refine Step.t_one (i := 4) rfl rfl (by kernel_rfl) ?_
  refine w_copy 22 22 5 _ _ rfl Tryz.underlying22 (by kernel_rfl) g (0 + 16 * j) 16 16 rfl ⟨w.heap.size, 0, none⟩ 16 16 rfl (arr .u8 16 fun i => ((byt x i : Nat) : Int)).toList (w := w1.drew) hcur (by rw [Array.length_toList, arr_size]; rfl) ?_ (by rw [Array.length_toList, arr_size]; omega) ?_ ?_
  · intro i v hv
    obtain ⟨hi, rfl⟩ := blk_get _ i v hv
    rw [Addr.add_mid, Nat.zero_add]
    exact A1.out.cell hi
  · intro v hv
    obtain ⟨i, hi⟩ := List.mem_iff_getElem?.1 hv
    obtain ⟨_, rfl⟩ := blk_get _ i v hi
    rfl
  refine ⟨trivial, ?_⟩
  simp only [Act.put, List.setIfInBounds_toArray, List.set_cons_zero, List.set_cons_succ]
  have hG : Hid (w.grownBy (w1.drew.setRow g (Tree.patch cur (0 + 16 * j) (arr .u8 16 fun i => ((byt x i : Nat) : Int)).toList)) (some g)) := Lib.hid ⟨G1.out.os, G1.out.tape, G1.out.output, by simpa using G1.out.size, fun b hb hne => (setRow_other _ g b _ (fun e => hne (by rw [e]))).trans (G1.out.block b hb (by simp))⟩
  have hA : Hid (Sec (w1.drew.setRow g (Tree.patch cur (0 + 16 * j) (arr .u8 16 fun i => ((byt x i : Nat) : Int)).toList)) g n (putF f j x)) := Lib.hid ⟨_, setRow_heap _ g cur _ _ _ hcur, by rw [Tree.patch_size _ _ _ (by rw [Array.length_toList, arr_size]; omega)]; exact hsz, fun i hi => patch_sec hj hsz hcs i hi⟩
  generalize w1.drew.setRow g (Tree.patch cur (0 + 16 * j) (arr .u8 16 fun i => ((byt x i : Nat) : Int)).toList) = w6 at *
  refine Step.t_end (by kernel_rfl) ?_
  clear hcs
  go_wp2
  go_end0
  exact ⟨rfl, hA.out, hG.out⟩
end Go.Proofs.YtcgjhjijfhgclaaGreatDoor.Tw

namespace Go.Proofs
open Go.RowKit Go.Shelf Go.Lib

def Tryz.laysMul_ren : Go.Shelf.Ren := ⟨fun | 264 => 81 | n => n, fun | 53 => 25 | 46 => 35 | n => n, fun | n => n⟩
theorem Tryz.laysMul : Go.Proofs.Lays.n264 Tryz.prog Tryz.laysMul_ren := {
  mixed := by kernel_rfl
  f264 := Tryz.func81.trans (congrArg some (by kernel_rfl))
  t46 := Tryz.underlying35
  a46 := Tryz.isAgg35
  z46 := Tryz.sizeOf35
  v46 := Tryz.zeroValue35
  t53 := Tryz.underlying25
  a53 := Tryz.isAgg25
  z53 := Tryz.sizeOf25
  v53 := Tryz.zeroValue25 }
def Tryz.laysAdd_ren : Go.Shelf.Ren := ⟨fun | 25 => 82 | n => n, fun | 22 => 25 | n => n, fun | n => n⟩
theorem Tryz.laysAdd : Go.Proofs.Lays7.n25 Tryz.prog Tryz.laysAdd_ren := {
  mixed := by kernel_rfl
  f25 := Tryz.func82.trans (congrArg some (by kernel_rfl))
  t22 := Tryz.underlying25
  a22 := Tryz.isAgg25
  z22 := Tryz.sizeOf25
  v22 := Tryz.zeroValue25
  i22 := by kernel_rfl }

namespace YtcgjhjijfhgclaaGreatDoor.Tw
open Go.Proofs.YtcgjhjijfhgclaaGreatDoor.Blk Go.Proofs.YtcgjhjijfhgclaaGreatDoor.Aes Go.Proofs.YtcgjhjijfhgclaaGreatDoor.Rj Go.Proofs.YtcgjhjijfhgclaaGreatDoor.Field Go.Proofs.YtcgjhjijfhgclaaGreatDoor.Poly
theorem mul64_any (x y : Nat) (hx : x < 18446744073709551616) (hy : y < 18446744073709551616) (w : World) : Calls Tryz.prog 81 #[.int .u64 x, .int .u64 y] w fun e w' => e = .returned (.tuple #[.int .u64 ((x * y / 18446744073709551616 : Nat) : Int), .int .u64 ((x * y % 18446744073709551616 : Nat) : Int)]) ∧ w' = w := Any.bits_Mul64 Tryz.laysMul x y hx hy w
theorem add64_any (x y c : Nat) (hc : c ≤ 1) (w : World) : (callFunc 82 #[.int .u64 x, .int .u64 y, .int .u64 c]).run Tryz.prog w = .ok (.value (.tuple #[.int .u64 (((x + y + c) % 18446744073709551616 : Nat) : Int), .int .u64 (((x + y + c) / 18446744073709551616 : Nat) : Int)])) w := Any7.bits_Add64 Tryz.laysAdd x y c hc w

set_option maxRecDepth 100000 in
set_option maxHeartbeats 2000000 in
theorem benbi_any (c : Value) (s n : Nat) (hs : s < 2 ^ 64) (hn : n ≤ 1000000) (w : World) : Calls Tryz.prog 51 #[c, .int .u64 s, .int .i64 n] w fun e w' => e = .returned (B16 (revN (s * (n / 16) + 1))) ∧ Below w.heap.size w w' := by
  have MU := Lib.hid (fun w => mul64_any s (n / 16) (by omega) (by omega) w)
  have hP : s * (n / 16) ≤ 18446744073709551615 * 62500 := Nat.mul_le_mul (by omega) (by omega)
  generalize s * (n / 16) = p at *
  have e0 : (p / 18446744073709551616 + (p % 18446744073709551616 + 1 + 0) / 18446744073709551616) * 2 ^ 64 + (p % 18446744073709551616 + 1 + 0) % 18446744073709551616 = p + 1 := by omega
  have h1 : p / 18446744073709551616 ≤ 62500 := by omega
  have h2 : p % 18446744073709551616 < 18446744073709551616 := by omega
  have h3 : (p % 18446744073709551616 + 1 + 0) / 18446744073709551616 ≤ 1 := by omega
  have h4 : (p % 18446744073709551616 + 1 + 0) % 18446744073709551616 < 18446744073709551616 := by omega
  have AD := fun w => add64_any (p % 18446744073709551616) 1 0 (by omega) w
  generalize (p % 18446744073709551616 + 1 + 0) / 18446744073709551616 = cy at *
  generalize (p % 18446744073709551616 + 1 + 0) % 18446744073709551616 = lo at *
  generalize p / 18446744073709551616 = h at *
  generalize p % 18446744073709551616 = l at *
  have AD2 : Hid (∀ w, (callFunc 82 #[.int .u64 l, .int .u64 1, .int .u64 0]).run Tryz.prog w = .ok (.value (.tuple #[.int .u64 lo, .int .u64 cy])) w) := Lib.hid fun w => by simpa using AD w
  clear AD
  have BG := Lib.hid (fun w => big_any (h + cy) lo h4 w)
  rw [e0] at BG
  have z16 : (Tryz.prog.info? 27).bind (·.zero) = some (.agg (arr .u8 16 fun _ => 0)) := by kernel_rfl
  clear e0
  go_enter Tryz.func51, Tryz.ntmps51
  go_upto_region 0 with fail
  refine wp_region_lit ?_
  refine New.p_newarr rfl 27 rfl .u8 16 z16 ?_
  intro w1 a1 g1 s1
  simp only [Act.put, List.setIfInBounds_toArray, List.set_cons_zero, List.set_cons_succ]
  refine wpList_nil ?_
  have A1 := Lib.hid a1
  have B1 := Lib.hid ((Below.refl w.heap.size w).grown g1 (Nat.le_refl _) (by simp))
  clear a1 g1 s1
  go_upto_region 1 with fail
  refine wp_region_lit ?_
  refine Step.p_move rfl _ rfl (.int .u64 s) rfl ?_
  simp only [Act.put, List.setIfInBounds_toArray, List.set_cons_zero, List.set_cons_succ]
  refine Step.p_move rfl _ rfl (.int .i64 n) rfl ?_
  simp only [Act.put, List.setIfInBounds_toArray, List.set_cons_zero, List.set_cons_succ]
  refine Step.p_val rfl (.int .i64 (n / 16 : Nat)) (by unfold execOp; go_simp; first | done | exact IntWalk.i64_in _ (by omega) | omega) ?_
  simp only [Act.put, List.setIfInBounds_toArray, List.set_cons_zero, List.set_cons_succ]
  refine Step.p_val rfl (.int .u64 (n / 16 : Nat)) (by unfold execOp; go_simp; try (rw [IntKind.wrap_u64]; omega)) ?_
  simp only [Act.put, List.setIfInBounds_toArray, List.set_cons_zero, List.set_cons_succ]
  refine Step.p_wp rfl (Step.w_callx 81 [.tmp 11, .tmp 14] _ rfl Tryz.func81 (by kernel_rfl) rfl [.int .u64 s, .int .u64 (n / 16 : Nat)] rfl (MU.out _) ?_)
  rintro e w2 ⟨rfl, rfl⟩
  refine ⟨_, rfl, ?_⟩
  simp only [Act.put, List.setIfInBounds_toArray, List.set_cons_zero, List.set_cons_succ]
  refine Step.p_move rfl _ rfl (.tuple #[.int .u64 h, .int .u64 l]) rfl ?_
  simp only [Act.put, List.setIfInBounds_toArray, List.set_cons_zero, List.set_cons_succ]
  refine Step.p_val rfl (.int .u64 h) (by unfold execOp; go_simp; try rfl) ?_
  simp only [Act.put, List.setIfInBounds_toArray, List.set_cons_zero, List.set_cons_succ]
  refine Step.p_val rfl (.int .u64 l) (by unfold execOp; go_simp; try rfl) ?_
  simp only [Act.put, List.setIfInBounds_toArray, List.set_cons_zero, List.set_cons_succ]
  refine Step.p_assign rfl _ rfl (.int .u64 h) rfl ?_
  simp only [Act.put, List.setIfInBounds_toArray, List.set_cons_zero, List.set_cons_succ]
  refine Step.p_assign rfl _ rfl (.int .u64 l) rfl ?_
  simp only [Act.put, List.setIfInBounds_toArray, List.set_cons_zero, List.set_cons_succ]
  refine wpList_nil ?_
  go_upto_region 2 with fail
  refine wp_region_lit ?_
  refine Step.p_move rfl _ rfl (.int .u64 l) rfl ?_
  simp only [Act.put, List.setIfInBounds_toArray, List.set_cons_zero, List.set_cons_succ]
  refine Step.p_val rfl (.tuple #[.int .u64 lo, .int .u64 cy]) (by unfold execOp; simp only [resolve, Deferred.ofValue, invoke]; go_simp; rw [AD2.out]; try rfl) ?_
  simp only [Act.put, List.setIfInBounds_toArray, List.set_cons_zero, List.set_cons_succ]
  refine Step.p_move rfl _ rfl (.tuple #[.int .u64 lo, .int .u64 cy]) rfl ?_
  simp only [Act.put, List.setIfInBounds_toArray, List.set_cons_zero, List.set_cons_succ]
  refine Step.p_val rfl (.int .u64 lo) (by unfold execOp; go_simp; try rfl) ?_
  simp only [Act.put, List.setIfInBounds_toArray, List.set_cons_zero, List.set_cons_succ]
  refine Step.p_val rfl (.int .u64 cy) (by unfold execOp; go_simp; try rfl) ?_
  simp only [Act.put, List.setIfInBounds_toArray, List.set_cons_zero, List.set_cons_succ]
  refine Step.p_assign rfl _ rfl (.int .u64 lo) rfl ?_
  simp only [Act.put, List.setIfInBounds_toArray, List.set_cons_zero, List.set_cons_succ]
  refine Step.p_assign rfl _ rfl (.int .u64 cy) rfl ?_
  simp only [Act.put, List.setIfInBounds_toArray, List.set_cons_zero, List.set_cons_succ]
  refine wpList_nil ?_
  go_upto_region 3 with fail
  refine wp_region_lit ?_
  refine Step.p_move rfl _ rfl (.int .u64 h) rfl ?_
  simp only [Act.put, List.setIfInBounds_toArray, List.set_cons_zero, List.set_cons_succ]
  refine Step.p_move rfl _ rfl (.int .u64 cy) rfl ?_
  simp only [Act.put, List.setIfInBounds_toArray, List.set_cons_zero, List.set_cons_succ]
  refine Step.p_val rfl (.int .u64 (h + cy : Nat)) (by unfold execOp; go_simp; rw [IntKind.wrap_u64]; omega) ?_
  simp only [Act.put, List.setIfInBounds_toArray, List.set_cons_zero, List.set_cons_succ]
  refine Step.p_move rfl _ rfl (.int .u64 lo) rfl ?_
  simp only [Act.put, List.setIfInBounds_toArray, List.set_cons_zero, List.set_cons_succ]
  refine Step.p_wp rfl (Step.w_callx 80 [.tmp 25, .tmp 26] _ rfl Tryz.func80 (by kernel_rfl) rfl [.int .u64 (h + cy : Nat), .int .u64 lo] rfl (BG.out _) ?_)
  rintro e w3 ⟨rfl, hb⟩
  refine ⟨_, rfl, ?_⟩
  simp only [Act.put, List.setIfInBounds_toArray, List.set_cons_zero, List.set_cons_succ]
  have A3 := Lib.hid (bel_arr (_B := 0) A1.out hb)
  have B3 := Lib.hid (B1.out.trans (hb.mono B1.out.size))
  clear hb
  refine Step.p_store 27 _ _ rfl w.heap.size rfl rfl A3.out Field.info16 rfl ?_
  intro w5 a5 g5 s5
  simp only [Act.put]
  refine wpList_nil ?_
  have B5 := Lib.hid (B3.out.grown g5 B3.out.size (fun j hj => by cases hj; exact Nat.le_refl _))
  clear g5
  go_wp2
  exact ret_arr rfl rfl a5 Tryz.underlying27 rfl Field.info16 rfl ⟨rfl, B5.out⟩
end YtcgjhjijfhgclaaGreatDoor.Tw
end Go.Proofs

namespace Go.Proofs.YtcgjhjijfhgclaaGreatDoor.Tw
open Go.RowKit Go.Lib Go.Proofs.YtcgjhjijfhgclaaGreatDoor.Blk Go.Proofs.YtcgjhjijfhgclaaGreatDoor.Field Go.Proofs.YtcgjhjijfhgclaaGreatDoor.Poly

/-- digits behind k rounds -/
def nxtF (m k r : Nat) : Nat := if r < k then 0 else byt m r
theorem low_ff {m : Nat} : ∀ k, (∀ r, r < k → byt m r = 255) → m % 256 ^ k = 256 ^ k - 1
  | 0, _ => by simp [Nat.mod_one]
  | k + 1, h => by
    have ih := low_ff k fun r hr => h r (by omega)
    have hk := h k (by omega)
    unfold byt at hk
    have hp : 0 < 256 ^ k := Nat.pow_pos (by decide)
    rw [Nat.pow_succ, Nat.mod_mul, ih, hk]
    generalize 256 ^ k = P at *
    omega
theorem nxt_hi {m k : Nat} (h : ∀ r, r < k → byt m r = 255) (hc : byt m k ≠ 255) (r : Nat) : byt (m + 1) r = if r < k then 0 else if r = k then byt m k + 1 else byt m r := by
  have e := low_ff k h
  have hp : 0 < 256 ^ k := Nat.pow_pos (by decide)
  have hm : m + 1 = (m / 256 ^ k + 1) * 256 ^ k := by
    have := Nat.div_add_mod m (256 ^ k)
    rw [e] at this
    rw [Nat.add_mul, Nat.one_mul, Nat.mul_comm]
    omega
  unfold byt at *
  generalize hqe : m / 256 ^ k = q at *
  have hq := Nat.mod_lt q (show 0 < 256 by decide)
  by_cases h1 : r < k
  · rw [if_pos h1, hm]
    obtain ⟨d, rfl⟩ := Nat.exists_eq_add_of_lt h1
    rw [show 256 ^ (r + d + 1) = 256 ^ (d + 1) * 256 ^ r by rw [← Nat.pow_add]; congr 1; omega, ← Nat.mul_assoc, Nat.mul_div_cancel _ (Nat.pow_pos (by decide)), Nat.pow_succ, ← Nat.mul_assoc, Nat.mul_mod_left]
  · rw [if_neg h1]
    obtain ⟨d, rfl⟩ := Nat.exists_eq_add_of_le (Nat.le_of_not_lt h1)
    have e2 : m / (256 ^ k * 256 ^ d) = q / 256 ^ d := by rw [← Nat.div_div_eq_div_mul, hqe]
    rw [hm, Nat.pow_add, ← Nat.div_div_eq_div_mul, Nat.mul_div_cancel _ hp]
    by_cases hd : d = 0
    · subst hd
      rw [if_pos (by omega), Nat.pow_zero, Nat.div_one]
      omega
    · rw [if_neg (by omega), e2]
      obtain ⟨d', rfl⟩ := Nat.exists_eq_add_of_le (show 1 ≤ d by omega)
      rw [Nat.pow_add, Nat.pow_one, ← Nat.div_div_eq_div_mul, ← Nat.div_div_eq_div_mul, show (q + 1) / 256 = q / 256 by omega]
theorem byt_mod (n r : Nat) (h : r < 16) : byt (n % 2 ^ 128) r = byt n r := by
  have := byt_low (a := n % 256 ^ 16) (b := n / 256 ^ 16) (k := 16) (Nat.mod_lt _ (by decide)) r h
  rw [Nat.mul_comm, Nat.mod_add_div] at this
  exact this.symm
theorem nxt_all {m : Nat} (hm : m < 2 ^ 128) (h : ∀ r, r < 16 → byt m r = 255) : (m + 1) % 2 ^ 128 = 0 := by
  have := low_ff 16 h
  have e : (256 : Nat) ^ 16 = 2 ^ 128 := by decide
  rw [e, Nat.mod_eq_of_lt hm] at this
  omega

set_option maxRecDepth 100000 in
set_option maxHeartbeats 2000000 in
theorem next_any (m : Nat) (hm : m < 2 ^ 128) (w : World) : Calls Tryz.prog 106 #[B16 (revN m)] w fun e w' => e = .returned (B16 (revN ((m + 1) % 2 ^ 128))) ∧ Below w.heap.size w w' := by
  have z16 : (Tryz.prog.info? 27).bind (·.zero) = some (.agg (arr .u8 16 fun _ => 0)) := by kernel_rfl
  go_enter Tryz.func106, Tryz.ntmps106
  go_upto_region 0 with fail
  refine wp_region_lit ?_
  refine New.p_box rfl 27 _ rfl .u8 16 (fun i => ((byt (revN m) i : Nat) : Int)) rfl ?_
  intro w1 a1 g1 s1
  simp only [Act.put, List.setIfInBounds_toArray, List.set_cons_zero, List.set_cons_succ]
  refine New.p_newarr rfl 27 rfl .u8 16 z16 ?_
  intro w2 a2 g2 s2
  refine wpList_nil ?_
  simp only [Act.put, List.setIfInBounds_toArray, List.set_cons_zero, List.set_cons_succ]
  rw [s1] at a2 s2 ⊢
  have A1 : Hid (Arr w2 w.heap.size .u8 16 27 fun i => ((nxtF m 0 (15 - i) : Nat) : Int)) := Lib.hid ((Rj.bel_arr (_B := 0) a1 (Rj.bel_of_gb (_B := 0) g2)).congr fun i hi => by rw [byt_rev _ _ hi]; rfl)
  have A2 := Lib.hid a2
  have B2 := Lib.hid (((Below.refl w.heap.size w).grown g1 (Nat.le_refl _) (by simp)).grown g2 (by omega) (by simp))
  clear a1 g1 s1 a2 g2 s2
  go_wp2
  go_loopw [3] (fun i wr => ∃ k : Nat, k ≤ 16 ∧ i = .int .i64 (15 - (k : Int)) ∧ (∀ r, r < k → byt m r = 255) ∧ Arr wr w.heap.size .u8 16 27 (fun i => ((nxtF m k (15 - i) : Nat) : Int)) ∧ Arr wr (w.heap.size + 1) .u8 16 27 (fun _ => 0) ∧ Below w.heap.size w wr) (fun i _ => (intOf i + 1).toNat)
  case atStart => exact ⟨0, by omega, rfl, fun r h => by omega, A1.out, A2.out, B2.out⟩
  case round =>
    obtain ⟨k, hk, rfl, hff, ha, hz, hb⟩ := hrel
    have HF := Lib.hid hff
    have HA := Lib.hid ha
    have HZ := Lib.hid hz
    have HB := Lib.hid hb
    clear hff ha hz hb A1 A2 B2
    by_cases hlt : k < 16
    · obtain ⟨j, hj⟩ : ∃ j, j = 15 - k := ⟨_, rfl⟩
      have ej : (15 : Int) - (k : Int) = (j : Nat) := by omega
      have hj16 : j < 16 := by omega
      have hcell := HA.out.cell (i := j) hj16
      have hfr := HA.out.free j
      have hkj : 15 - j = k := by omega
      rw [hkj, show nxtF m k k = byt m k from if_neg (Nat.lt_irrefl k)] at hcell
      have hcl := byt_lt m k
      rw [ej]
      by_cases hc : byt m k = 255
      · have HC := Lib.hid hc
        rw [hc] at hcell
        have HE : Hid ((j : Int) - 1 = 15 - ((k + 1 : Nat) : Int)) := Lib.hid (by omega)
        have HKJ := Lib.hid hkj
        clear hc hcl hkj ej hj
        go_wp2
        go_roundw
        case rel =>
          refine ⟨k + 1, by omega, by rw [← HE.out], fun r hr => ?_, ?_, HZ.out.other (by simp) _, HB.out.setCell (Nat.le_refl _) _⟩
          · by_cases e : r = k
            · rw [e, HC.out]
            · exact HF.out r (by omega)
          · refine (HA.out.store j _).congr fun i hi => ?_
            have := HKJ.out
            unfold upd nxtF
            by_cases e : i = j
            · rw [if_pos e, if_pos (by omega)]
              rfl
            · rw [if_neg e]
              dsimp only
              by_cases e2 : 15 - i < k
              · rw [if_pos e2, if_pos (by omega)]
              · have e3 : ¬ 15 - i < k + 1 := by omega
                simp only [e2, e3, if_false]
        case measure => simp [intOf]
      · have HN : Hid (∀ r, byt (m + 1) r = if r < k then 0 else if r = k then byt m k + 1 else byt m r) := Lib.hid (nxt_hi HF.out hc)
        have HV : Hid (IntKind.u8.wrap ((byt m k : Nat) + 1 : Int) = (byt m k + 1 : Nat)) := Lib.hid (by rw [IntKind.wrap_u8]; omega)
        have hnz : ¬ (((byt m k + 1 : Nat) : Int) = 0) := by omega
        have HKJ := Lib.hid hkj
        clear hkj ej hj
        go_upto_region 4 with fail
        refine wp_region_lit ?_
        refine Step.p_move rfl _ rfl (.int .i64 j) rfl ?_
        simp only [Act.put, List.setIfInBounds_toArray, List.set_cons_zero, List.set_cons_succ]
        refine Still.p_idxA rfl _ 5 _ _ rfl w.heap.size 0 rfl .i64 j rfl hj16 Tryz.underlying27 (size := 1) (by kernel_rfl) j (by omega) ?_
        simp only [Act.put, List.setIfInBounds_toArray, List.set_cons_zero, List.set_cons_succ]
        refine Tree.p_load1 rfl _ _ rfl (w.heap.size) (j) rfl (.int .u8 (byt m k : Nat)) (hcell) Tryz.underlying5 rfl ?_
        simp only [Act.put, List.setIfInBounds_toArray, List.set_cons_zero, List.set_cons_succ]
        refine Step.p_val rfl (.int .u8 (byt m k + 1 : Nat)) (by unfold execOp; go_simp; exact HV.out) ?_
        simp only [Act.put, List.setIfInBounds_toArray, List.set_cons_zero, List.set_cons_succ]
        refine Still.p_idxA rfl _ 5 _ _ rfl w.heap.size 0 rfl .i64 j rfl hj16 Tryz.underlying27 (size := 1) (by kernel_rfl) j (by omega) ?_
        simp only [Act.put, List.setIfInBounds_toArray, List.set_cons_zero, List.set_cons_succ]
        refine Still.p_storeA rfl 5 _ _ rfl w.heap.size j rfl .u8 (byt m k + 1 : Nat) rfl HA.out hj16 (by kernel_rfl) ?_
        simp only [Act.put]
        refine wpList_nil ?_
        have HA2 := Lib.hid (HA.out.store j (byt m k + 1 : Nat))
        have HZ2 := Lib.hid (HZ.out.other (a := ⟨w.heap.size, j, none⟩) (by simp) (.int .u8 (byt m k + 1 : Nat)))
        have HB2 := Lib.hid (HB.out.setCell (p := ⟨w.heap.size, j, none⟩) (Nat.le_refl _) (.int .u8 (byt m k + 1 : Nat)))
        have hcell2 := HA2.out.cell (i := j) hj16
        rw [show upd (fun i => ((nxtF m k (15 - i) : Nat) : Int)) j ((byt m k + 1 : Nat) : Int) j = ((byt m k + 1 : Nat) : Int) from if_pos rfl] at hcell2
        clear HA HZ HB hcell hfr HV
        generalize wr.setCell ⟨w.heap.size, j, none⟩ (.int .u8 (byt m k + 1 : Nat)) = w5 at *
        go_wp2_with (first | (refine wpList_load_arr rfl 27 _ rfl _ rfl HA2.out Tryz.underlying27 rfl Field.info16 ?_) | (refine wpList_store_arr rfl 27 _ _ rfl _ rfl rfl HZ2.out Field.info16 ?_; intro w7 a7 g7 s7))
        have B7 := Lib.hid (HB2.out.grown g7 HB2.out.size (fun j hj => by cases hj; exact Nat.le_succ _))
        clear g7
        refine ret_arr rfl rfl a7 Tryz.underlying27 rfl Field.info16 rfl ⟨?_, B7.out⟩
        refine congrArg (fun x => Ending.returned (.agg x)) (arr_congr fun i hi => ?_)
        rw [byt_rev _ _ hi, byt_mod _ _ (by omega), HN.out]
        have := HKJ.out
        unfold upd nxtF
        by_cases e : i = j
        · rw [if_pos e, if_neg (by omega), if_pos (by omega)]
        · rw [if_neg e]
          dsimp only
          by_cases e2 : 15 - i < k
          · rw [if_pos e2, if_pos e2]
          · rw [if_neg e2, if_neg e2, if_neg (by omega)]
    · obtain rfl : k = 16 := by omega
      go_wp2_with (first | (refine wpList_load_arr rfl 27 _ rfl _ rfl HA.out Tryz.underlying27 rfl Field.info16 ?_) | (refine wpList_store_arr rfl 27 _ _ rfl _ rfl rfl HZ.out Field.info16 ?_; intro w7 a7 g7 s7))
      have B7 := Lib.hid (HB.out.grown g7 HB.out.size (fun j hj => by cases hj; exact Nat.le_succ _))
      clear g7
      refine ret_arr rfl rfl a7 Tryz.underlying27 rfl Field.info16 rfl ⟨?_, B7.out⟩
      refine congrArg (fun x => Ending.returned (.agg x)) (arr_congr fun i hi => ?_)
      rw [nxt_all hm HF.out, byt_rev _ _ hi]
      unfold nxtF
      rw [if_pos (by omega)]
      simp [byt]
end Go.Proofs.YtcgjhjijfhgclaaGreatDoor.Tw
