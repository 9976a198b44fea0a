/- Parts of the proof of TweakBlocks. RefN0: cofferref02: a key's block, its bytes bytes. -/
import Derived.Test.YtmifebcaifbmoaaGreatDoorL00
import Derived.Test.YtmifebcaifbmoaaGreatDoorL19
/- RefN0 -/
section
namespace Go.Proofs.YtmifebcaifbmoaaGreatDoor.Ref2
open Go.RowKit Go.Lib Go.Proofs.YtmifebcaifbmoaaGreatDoor.Blk Go.Proofs.YtmifebcaifbmoaaGreatDoor.Aes

def byteV : Value → Bool
  | .int .u8 (.ofNat z) => decide (z < 256)
  | _ => false
theorem byteV_ex {v : Value} (h : byteV v = true) : ∃ z : Nat, z < 256 ∧ v = .int .u8 (z : Nat) := by
  cases v with
  | int k n =>
    cases k <;> first | (cases n with
      | ofNat z => exact ⟨z, of_decide_eq_true h, rfl⟩
      | negSucc z => cases h) | cases h
  | _ => cases h
def keyZ (z : Array Value) : Bool := z.size == 4611 && ((z.toList.drop 2).take 4608).all byteV && (match z.toList with | .slice none 0 0 :: .slice none 0 0 :: _ => true | _ => false)
set_option maxRecDepth 100000 in
theorem keyZ_ok : (match (Tryz.prog.info? 178).bind (·.zero) with | some (.agg z) => keyZ z | _ => false) = true := by kernel_rfl
theorem keyZ_ex : ∃ z : Array Value, (Tryz.prog.info? 178).bind (·.zero) = some (.agg z) ∧ z.size = 4611 ∧ (∀ i, i < 4608 → ∃ x : Nat, x < 256 ∧ z[2 + i]? = some (.int .u8 (x : Nat))) ∧ z[0]? = some (.slice none 0 0) ∧ z[1]? = some (.slice none 0 0) := by
  have h := keyZ_ok
  split at h
  · rename_i z hz
    unfold keyZ at h
    simp only [Bool.and_eq_true, beq_iff_eq] at h
    obtain ⟨⟨h1, h2⟩, h3⟩ := h
    refine ⟨z, hz, h1, fun i hi => ?_, ?_, ?_⟩
    · have hl : 2 + i < z.toList.length := by rw [Array.length_toList]; omega
      have hm : z.toList[2 + i] ∈ (z.toList.drop 2).take 4608 := by
        rw [List.mem_take_iff_getElem]
        refine ⟨i, by simp; omega, by simp⟩
      obtain ⟨x, hx, e⟩ := byteV_ex (List.all_eq_true.1 h2 _ hm)
      refine ⟨x, hx, ?_⟩
      rw [← Array.getElem?_toList, List.getElem?_eq_getElem hl, e]
    · split at h3
      · rename_i hl
        rw [← Array.getElem?_toList, hl]
        rfl
      · cases h3
    · split at h3
      · rename_i hl
        rw [← Array.getElem?_toList, hl]
        rfl
      · cases h3
  · cases h
/-- a key's block: two lists ahead of bytes -/
structure KyW (kb : Nat) (v0 v1 : Value) (w : World) : Prop where
  h : ∃ C, w.heap[kb]? = some (.cells C 178 (0, 0)) ∧ C.size = 4611 ∧ (∀ i, i < 4608 → ∃ x : Nat, x < 256 ∧ C[2 + i]? = some (.int .u8 (x : Nat))) ∧ C[0]? = some v0 ∧ C[1]? = some v1
theorem KyW.lt {kb : Nat} {v0 v1 : Value} {w : World} (h : KyW kb v0 v1 w) : kb < w.heap.size := by
  obtain ⟨C, h1, _⟩ := h
  exact (Array.getElem?_eq_some_iff.1 h1).1
theorem KyW.block {kb : Nat} {v0 v1 : Value} {w w' : World} (h : KyW kb v0 v1 w) (hb : w'.heap[kb]? = w.heap[kb]?) : KyW kb v0 v1 w' := by
  obtain ⟨C, h1, h2⟩ := h
  exact ⟨C, hb.trans h1, h2⟩
theorem KyW.below {kb : Nat} {v0 v1 : Value} {w w' : World} (h : KyW kb v0 v1 w) (hb : Below w.heap.size w w') : KyW kb v0 v1 w' := h.block (hb.block kb h.lt)
theorem KyW.cell {kb : Nat} {v0 v1 : Value} {w : World} (h : KyW kb v0 v1 w) (i : Nat) (hi : i < 4608) : ∃ x : Nat, x < 256 ∧ w.cell? ⟨kb, 2 + i, none⟩ = some (.int .u8 (x : Nat)) := by
  obtain ⟨C, h1, h2, h3, _⟩ := h
  obtain ⟨x, hx, e⟩ := h3 i hi
  exact ⟨x, hx, by rw [cell_of_row w kb _ _ _ _ h1]; exact e⟩
theorem KyW.c0 {kb : Nat} {v0 v1 : Value} {w : World} (h : KyW kb v0 v1 w) : w.cell? ⟨kb, 0, none⟩ = some v0 := by
  obtain ⟨C, h1, h2, h3, h4, h5⟩ := h
  rw [cell_of_row w kb _ _ _ _ h1]; exact h4
theorem KyW.c1 {kb : Nat} {v0 v1 : Value} {w : World} (h : KyW kb v0 v1 w) : w.cell? ⟨kb, 1, none⟩ = some v1 := by
  obtain ⟨C, h1, h2, h3, h4, h5⟩ := h
  rw [cell_of_row w kb _ _ _ _ h1]; exact h5
section
variable {ops : Array Oper} {Q : Exit → Act → World → Prop} {a : Act} {w : World} {o : Oper} {rest : List Oper}
/-- a byte is stored into the block -/
theorem p_by (hgd : o.guard = none) (x y : Operand) (ho : o.op = .store 5 x y) (kb off : Nat) (hx : a.eval x = .pointer (some ⟨kb, off, none⟩)) (z : Nat) (hy : a.eval y = .int .u8 (z : Nat)) (hz : z < 256) (h2 : 2 ≤ off) (h3 : off < 4610) {v0 v1 : Value} (hK : KyW kb v0 v1 w)
    (h : ∀ w', KyW kb v0 v1 w' → w.grownBy w' (some kb) → wpList Tryz.prog ops Q rest (a.put o.dst undef) w') : wpList Tryz.prog ops Q (o :: rest) a w := by
  obtain ⟨C, h1, hs, hb, c0, c1⟩ := hK
  refine Step.p_storeV hgd 5 x y ho kb off hx (.int .u8 (z : Nat)) hy (fun _ e => by cases e) rfl (by kernel_rfl) h1 (by omega) fun w' e1 e2 _ => h w' ⟨_, e1, by simpa using hs, fun i hi => ?_, ?_, ?_⟩ e2
  · by_cases e : off = 2 + i
    · exact ⟨z, hz, by rw [e, Array.getElem?_setIfInBounds_self]; simp [show 2 + i < C.size by omega]⟩
    · rw [Array.getElem?_setIfInBounds_ne e]
      exact hb i hi
  · rw [Array.getElem?_setIfInBounds_ne (by omega)]; exact c0
  · rw [Array.getElem?_setIfInBounds_ne (by omega)]; exact c1
/-- a table of bytes is stored into the block -/
theorem p_tab (hgd : o.guard = none) (x y : Operand) (ho : o.op = .store 175 x y) (kb off : Nat) (hx : a.eval x = .pointer (some ⟨kb, off, none⟩)) (f : Nat → Nat) (hf : ∀ i, f i < 256) (hy : a.eval y = .agg (arr .u8 256 fun i => (f i : Nat))) (h2 : 2 ≤ off) (h3 : off + 256 ≤ 4610) {v0 v1 : Value} (hK : KyW kb v0 v1 w)
    (h : ∀ w', KyW kb v0 v1 w' → w.grownBy w' (some kb) → wpList Tryz.prog ops Q rest (a.put o.dst undef) w') : wpList Tryz.prog ops Q (o :: rest) a w := by
  obtain ⟨C, h1, hs, hb, c0, c1⟩ := hK
  have hl : (arr .u8 256 fun i => ((f i : Nat) : Int)).toList.length = 256 := by rw [Array.length_toList, arr_size]
  have hpg := fun i => Tw.patch_get C off (arr .u8 256 fun i => ((f i : Nat) : Int)).toList (by rw [hl]; omega) i
  rw [hl] at hpg
  refine Tree.p_storemid hgd 175 x y ho kb off hx _ hy (by rw [arr_size]; kernel_rfl) (by
    have := arr_one .u8 256 fun i => ((f i : Nat) : Int)
    rw [← Array.all_toList, List.all_eq_true] at this
    exact this) h1 (by rw [arr_size]; omega) (h _ ⟨_, setRow_heap w kb C _ _ _ h1, by rw [Tree.patch_size _ _ _ (by rw [hl]; omega)]; exact hs, fun i hi => ?_, ?_, ?_⟩ ⟨rfl, rfl, rfl, by simp, fun x _ hc => setRow_other w kb x _ (fun e => hc (by rw [e]))⟩)
  · rw [hpg]
    split
    · refine ⟨f (2 + i - off), hf _, ?_⟩
      rw [Array.getElem?_toList, arr_get .u8 256 _ _ (by omega)]
    · exact hb i hi
  · rw [hpg, if_neg (by omega)]; exact c0
  · rw [hpg, if_neg (by omega)]; exact c1
/-- a list is laid into the block -/
theorem p_list1 (hgd : o.guard = none) (x y : Operand) (ho : o.op = .store 22 x y) (kb : Nat) (hx : a.eval x = .pointer (some ⟨kb, 1, none⟩)) (q : Option Addr) (n c : Nat) (hy : a.eval y = .slice q n c) {v0 v1 : Value} (hK : KyW kb v0 v1 w)
    (h : ∀ w', KyW kb v0 (.slice q n c) w' → w.grownBy w' (some kb) → wpList Tryz.prog ops Q rest (a.put o.dst undef) w') : wpList Tryz.prog ops Q (o :: rest) a w := by
  obtain ⟨C, h1, hs, hb, c0, c1⟩ := hK
  refine Step.p_storeV hgd 22 x y ho kb 1 hx (.slice q n c) hy (fun _ e => by cases e) rfl (by kernel_rfl) h1 (by omega) fun w' e1 e2 _ => h w' ⟨_, e1, by simpa using hs, fun i hi => ?_, ?_, ?_⟩ e2
  · rw [Array.getElem?_setIfInBounds_ne (by omega)]; exact hb i hi
  · rw [Array.getElem?_setIfInBounds_ne (by omega)]; exact c0
  · rw [Array.getElem?_setIfInBounds_self]; simp [show 1 < C.size by omega]
theorem p_list0 (hgd : o.guard = none) (x y : Operand) (ho : o.op = .store 22 x y) (kb : Nat) (hx : a.eval x = .pointer (some ⟨kb, 0, none⟩)) (q : Option Addr) (n c : Nat) (hy : a.eval y = .slice q n c) {v0 v1 : Value} (hK : KyW kb v0 v1 w)
    (h : ∀ w', KyW kb (.slice q n c) v1 w' → w.grownBy w' (some kb) → wpList Tryz.prog ops Q rest (a.put o.dst undef) w') : wpList Tryz.prog ops Q (o :: rest) a w := by
  obtain ⟨C, h1, hs, hb, c0, c1⟩ := hK
  refine Step.p_storeV hgd 22 x y ho kb 0 hx (.slice q n c) hy (fun _ e => by cases e) rfl (by kernel_rfl) h1 (by omega) fun w' e1 e2 _ => h w' ⟨_, e1, by simpa using hs, fun i hi => ?_, ?_, ?_⟩ e2
  · rw [Array.getElem?_setIfInBounds_ne (by omega)]; exact hb i hi
  · rw [Array.getElem?_setIfInBounds_self]; simp [show 0 < C.size by omega]
  · rw [Array.getElem?_setIfInBounds_ne (by omega)]; exact c1
theorem w_list1 {K : Act → World → Prop} (x y : Operand) (ho : o.op = .store 22 x y) (kb : Nat) (hx : a.eval x = .pointer (some ⟨kb, 1, none⟩)) (q : Option Addr) (n c : Nat) (hy : a.eval y = .slice q n c) {v0 v1 : Value} (hK : KyW kb v0 v1 w)
    (h : ∀ w', KyW kb v0 (.slice q n c) w' → w.grownBy w' (some kb) → K (a.put o.dst undef) w') : o.wp Tryz.prog a w K Q := by
  obtain ⟨C, h1, hs, hb, c0, c1⟩ := hK
  refine Step.w_storeV 22 x y ho kb 1 hx (.slice q n c) hy (fun _ e => by cases e) rfl (by kernel_rfl) h1 (by omega) fun w' e1 e2 _ => h w' ⟨_, e1, by simpa using hs, fun i hi => ?_, ?_, ?_⟩ e2
  · rw [Array.getElem?_setIfInBounds_ne (by omega)]; exact hb i hi
  · rw [Array.getElem?_setIfInBounds_ne (by omega)]; exact c0
  · rw [Array.getElem?_setIfInBounds_self]; simp [show 1 < C.size by omega]
theorem w_load1 {P : Program} {K : Act → World → Prop} (ty : TypeId) (x : Operand) (ho : o.op = .load ty x) (b off : Nat) (hx : a.eval x = .pointer (some ⟨b, off, none⟩)) {d : TypeDesc} (v : Value) (hA : w.cell? ⟨b, off, none⟩ = some v) (hu : P.underlying ty = some d) (hd : Step.oneD d = true) (h : K (a.put o.dst v) w) : o.wp P a w K Q :=
  Step.w_run v w (by
    unfold execOp
    simp only [ho, hx, Instr.loadAt, Instr.sureAddr, Sem.run_bind, Sem.run_pure, Result.andThen_ok, Step.run_load1 ty b off hu hd hA]) h
/-- a literal of no fields -/
theorem p_build0 (hg : Region.wanted o (yielded ops a.tmps) = true) (t : TypeId) (ho : o.op = .build t #[]) {P : Program} (z : Array Value) (hz : (P.info? t).bind (·.zero) = some (.agg z)) {fs : Array Field} (hu : P.underlying t = some (.struct fs)) (places : List (Nat × Nat)) (hpl : fs.toList.mapM (fun f => (P.info? f.type).map fun i => (f.offset, i.size)) = some places)
    (h : wpList P ops Q rest (a.put o.dst (.agg z)) w) : wpList P ops Q (o :: rest) a w := by
  have hb : P.built t [] = some z := by
    unfold Program.built
    cases hie : P.info? t with
    | none => simp [hie] at hz
    | some ie =>
      simp only [hie, Option.bind_some] at hz
      rw [hu]
      simp only [hz, hpl, Instr.fill]
      rfl
  refine Step.p_val hg (.agg z) ?_ h
  unfold execOp
  rw [ho]
  simp only [List.map_toArray, List.map_nil, Sem.run_bind, run_build (P := P) w t #[] _ hb, Result.andThen_ok, Sem.run_pure]
end
end Go.Proofs.YtmifebcaifbmoaaGreatDoor.Ref2
end
