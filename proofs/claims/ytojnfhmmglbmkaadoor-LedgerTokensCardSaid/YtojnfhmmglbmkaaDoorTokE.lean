/- LedgerTokens answers true. -/
import Derived.Test.YtojnfhmmglbmkaaDoorTokD
import Derived.Test.YtojnfhmmglbmkaaDoorStep
namespace Go.Proofs.YtojnfhmmglbmkaaDoor.Tok
open Go.RowKit Go.Lib Go.Proofs.YtojnfhmmglbmkaaDoor.Blk Go.Proofs.YtojnfhmmglbmkaaDoor.TokV Go.Proofs.YtojnfhmmglbmkaaDoor.Step

/-- the copy is a list too -/
theorem TT_copy {w : World} {n : Nat} {f : Nat → Int} {g : Nat} (hr : ∀ j, j < n + 70 → w.cell? ⟨g, j, none⟩ = (row n f 70)[j]?) : IL w (some ⟨g, 0, none⟩) n f := fun i hi => ⟨g, 0, rfl, by rw [Nat.zero_add, hr i (by omega), row_get _ _ _ _ hi]⟩
/-- two tokens in blocks of their own, the second with the slots' copy -/
structure TT (w : World) (B : Nat) (num : Int) (kd nt : ByteArray) (q : Option Addr) (n cap : Nat) (f : Nat → Int) (g c : Nat) : Prop where
  one : w.heap[B]? = some (.cells #[.int .i64 num, .string kd, .slice q n cap, .string nt] 24 (0, 0))
  two : w.heap[B + 1]? = some (.cells #[.int .i64 num, .string kd, .slice (some ⟨g, 0, none⟩) n c, .string nt] 24 (0, 0))
  row : ∀ j, j < n + 70 → w.cell? ⟨g, j, none⟩ = (row n f 70)[j]?
  il : IL w q n f
  tabs : Tabs w
theorem heap_lt {w : World} {b : Nat} {o : Obj} (h : w.heap[b]? = some o) : b < w.heap.size := (Array.getElem?_eq_some_iff.1 h).1
theorem TT.keep {w w' : World} {B : Nat} {num : Int} {kd nt : ByteArray} {q : Option Addr} {n cap : Nat} {f : Nat → Int} {g c : Nat} (h : TT w B num kd nt q n cap f g c) (hb : Below w.heap.size w w') : TT w' B num kd nt q n cap f g c :=
  ⟨by rw [← h.one]; exact hb.block _ (heap_lt h.one), by rw [← h.two]; exact hb.block _ (heap_lt h.two), fun j hj => by
    rw [← h.row j hj]
    have h3 : ∃ v, w.cell? ⟨g, j, none⟩ = some v := by
      rw [h.row j hj]
      have hl : j < (Tok.row n f 70).length := by simp [Tok.row]; omega
      exact ⟨_, List.getElem?_eq_getElem hl⟩
    obtain ⟨v, hv⟩ := h3
    exact hb.cell (Frame.block_lt hv), h.il.below hb, tabs_below h.tabs hb⟩

set_option maxRecDepth 100000 in
set_option maxHeartbeats 4000000 in
theorem law_any (num : Int) (kd nt : ByteArray) (q : Option Addr) (n cap : Nat) (f : Nat → Int) (w : World) (hT : Tabs w) (hk : kd.size ≤ 4611686018427387904) (ht : nt.size ≤ 4611686018427387904) (hn : n ≤ 17592186043904) (hle : n ≤ cap) (hq : q = none → n = 0 ∧ cap = 0) (h1 : IL w q n f) :
    Calls Tryd.prog 3 #[tokV num kd q n cap nt] w fun e w' => e = .returned (.bool true) ∧ Below w.heap.size w w' := by
  unfold tokV
  go_enter Tryd.func3, Tryd.ntmps3
  go_upto_region 2 with fail
  have b1 : Below w.heap.size w ((w.alloc (.cells #[.int .i64 num, .string kd, .slice q n cap, .string nt] 24)).alloc (.cells #[.int .i64 num, .string kd, .slice q n cap, .string nt] 24)) := ((Below.refl _ _).alloc (Nat.le_refl _) _).alloc (by simp) _
  have o1 : ((w.alloc (.cells #[.int .i64 num, .string kd, .slice q n cap, .string nt] 24)).alloc (.cells #[.int .i64 num, .string kd, .slice q n cap, .string nt] 24)).heap[w.heap.size]? = some (.cells #[.int .i64 num, .string kd, .slice q n cap, .string nt] 24 (0, 0)) := by
    rw [heap_alloc_old _ _ (by simp), heap_alloc_new]
  have o2 : ((w.alloc (.cells #[.int .i64 num, .string kd, .slice q n cap, .string nt] 24)).alloc (.cells #[.int .i64 num, .string kd, .slice q n cap, .string nt] 24)).heap[w.heap.size + 1]? = some (.cells #[.int .i64 num, .string kd, .slice q n cap, .string nt] 24 (0, 0)) := by
    have := heap_alloc_new (w.alloc (.cells #[.int .i64 num, .string kd, .slice q n cap, .string nt] 24)) (.cells #[.int .i64 num, .string kd, .slice q n cap, .string nt] 24)
    simpa using this
  generalize (w.alloc (.cells #[.int .i64 num, .string kd, .slice q n cap, .string nt] 24)).alloc (.cells #[.int .i64 num, .string kd, .slice q n cap, .string nt] 24) = w1 at *
  have HB := Lib.hid b1
  have H1 := Lib.hid o1
  have H2 := Lib.hid o2
  have HI := Lib.hid (h1.below b1)
  have HI0 := Lib.hid h1
  have HT0 := Lib.hid hT
  have hl2 := heap_lt o2
  have r1 := cell_of_row w1 w.heap.size 2 _ _ _ o1
  have r2 := cell_of_row w1 (w.heap.size + 1) 2 _ _ _ o2
  simp at r1 r2
  clear o1 o2 b1 h1 hT
  go_upto_region 3 with (go_at_call 4; refine (ints_any q n cap f w1 hn hle hq HI.out).mono ?_; rintro e w2 ⟨g, c, rfl, hg, hc, hcm, hrow, hb2⟩; have X2 := Lib.hid (And.intro hg (And.intro hc (And.intro hcm (And.intro hrow hb2)))); clear hg hc hcm hrow; have o3 := (hb2.block _ hl2).trans H2.out; have r3 := cell_of_row w2 (w.heap.size + 1) 2 _ _ _ o3; have f3 := frozen_of_row w2 (w.heap.size + 1) 2 _ _ o3; simp at r3; clear o3)
  have hX := X2.out
  have t0 : Hid (TT (w2.setCell ⟨w.heap.size + 1, 2, none⟩ (.slice (some ⟨g, 0, none⟩) n c)) w.heap.size num kd nt q n cap f g c ∧ Below w.heap.size w (w2.setCell ⟨w.heap.size + 1, 2, none⟩ (.slice (some ⟨g, 0, none⟩) n c))) := Lib.hid (by
    have bl : Below w.heap.size w w2 := HB.out.trans (hb2.mono HB.out.size)
    have o1 := (hb2.block _ (heap_lt H1.out)).trans H1.out
    have o2 := (hb2.block _ hl2).trans H2.out
    have bs := bl.setCell (p := ⟨w.heap.size + 1, 2, none⟩) (by simp) (.slice (some ⟨g, 0, none⟩) n c)
    have ks := fun (b : Nat) (hb : b ≠ w.heap.size + 1) => heap_setCell_other w2 ⟨w.heap.size + 1, 2, none⟩ b (.slice (some ⟨g, 0, none⟩) n c) (fun e => hb e)
    refine ⟨⟨?_, ?_, ?_, ?_, ?_⟩, bs⟩
    · rw [ks _ (by omega)]; exact o1
    · have := heap_setCell_same w2 (w.heap.size + 1) 2 _ _ (.slice (some ⟨g, 0, none⟩) n c) o2
      simpa using this
    · intro j hj
      rw [← hX.2.2.2.1 j hj]
      unfold World.cell?
      rw [ks g (by have := hX.1; omega)]
    · exact HI0.out.below bs
    · exact tabs_below HT0.out bs)
  have HC := Lib.hid (And.intro hX.2.1 hX.2.2.1)
  clear hX X2 HI HI0 HT0 HB H1 H2 f3 r3 hb2 hq
  generalize w2.setCell ⟨w.heap.size + 1, 2, none⟩ (.slice (some ⟨g, 0, none⟩) n c) = w3 at *
  refine Step.wp_region_class (C := fun w' => TT w' w.heap.size num kd nt q n cap f g c ∧ Below w.heap.size w w') (by kernel_rfl) (by kernel_rfl) ⟨t0.out.1.keep (Below.refl _ _).drew, t0.out.2.drew⟩ ?_
  refine q_loadrow rfl 24 _ rfl (w.heap.size + 1) rfl (fun w' hw' => hw'.1.two) Tryd.underlying24 rfl (by kernel_rfl) ?_
  simp only [Act.put, List.setIfInBounds_toArray, List.set_cons_zero, List.set_cons_succ]
  refine q_call rfl 5 _ _ rfl Tryd.func5 (by kernel_rfl) rfl (.bool (tokOk num kd nt n f)) [tokV num kd (some ⟨g, 0, none⟩) n c nt] rfl (fun w' hw' => (tokenMay_any num kd nt _ n c f w' hw'.1.tabs hk ht (by unfold maxLen; omega) (TT_copy hw'.1.row)).mono fun e w2 h => ⟨h.1, hw'.1.keep h.2, hw'.2.trans (h.2.mono hw'.2.size)⟩) ?_
  simp only [Act.put, List.setIfInBounds_toArray, List.set_cons_zero, List.set_cons_succ]
  refine q_loadrow rfl 24 _ rfl w.heap.size rfl (fun w' hw' => hw'.1.one) Tryd.underlying24 rfl (by kernel_rfl) ?_
  simp only [Act.put, List.setIfInBounds_toArray, List.set_cons_zero, List.set_cons_succ]
  refine q_call rfl 6 _ _ rfl Tryd.func6 (by kernel_rfl) rfl (.bool (tokOk num kd nt n f)) [tokV num kd q n cap nt] rfl (fun w' hw' => (refTokenMay_any num kd nt q n cap f w' hk ht (by unfold maxLen; omega) hw'.1.il).mono fun e w2 h => ⟨h.1, hw'.1.keep h.2, hw'.2.trans (h.2.mono hw'.2.size)⟩) ?_
  simp only [Act.put, List.setIfInBounds_toArray, List.set_cons_zero, List.set_cons_succ]
  refine q_eqb rfl _ _ _ _ rfl (tokOk num kd nt n f) (tokOk num kd nt n f) rfl rfl Tryd.underlying4 true (by simp) ?_
  simp only [Act.put, List.setIfInBounds_toArray, List.set_cons_zero, List.set_cons_succ]
  refine q_move rfl _ rfl (.bool true) rfl ?_
  simp only [Act.put, List.setIfInBounds_toArray, List.set_cons_zero, List.set_cons_succ]
  refine q_field (sz := 1) rfl _ _ _ rfl (w.heap.size + 1) 0 rfl Tryd.underlying24 rfl (by kernel_rfl) (by decide) 2 rfl ?_
  simp only [Act.put, List.setIfInBounds_toArray, List.set_cons_zero, List.set_cons_succ]
  refine q_load1 rfl _ _ rfl (w.heap.size + 1) 2 rfl (.slice (some ⟨g, 0, none⟩) n c) (fun w' hw' => by rw [cell_of_row w' _ 2 _ _ _ hw'.1.two]; rfl) Tryd.underlying22 rfl ?_
  simp only [Act.put, List.setIfInBounds_toArray, List.set_cons_zero, List.set_cons_succ]
  refine q_field (sz := 1) rfl _ _ _ rfl w.heap.size 0 rfl Tryd.underlying24 rfl (by kernel_rfl) (by decide) 2 rfl ?_
  simp only [Act.put, List.setIfInBounds_toArray, List.set_cons_zero, List.set_cons_succ]
  refine q_load1 rfl _ _ rfl w.heap.size 2 rfl (.slice q n cap) (fun w' hw' => by rw [cell_of_row w' _ 2 _ _ _ hw'.1.one]; rfl) Tryd.underlying22 rfl ?_
  simp only [Act.put, List.setIfInBounds_toArray, List.set_cons_zero, List.set_cons_succ]
  refine q_call rfl 7 _ _ rfl Tryd.func7 (by kernel_rfl) rfl (.bool true) [.slice (some ⟨g, 0, none⟩) n c, .slice q n cap] rfl (fun w' hw' => (wholeInts_any g c q n cap f w' hn HC.out.1 HC.out.2 hw'.1.row hw'.1.il).mono fun e w2 h => ⟨h.1, hw'.1.keep h.2, hw'.2.trans (h.2.mono hw'.2.size)⟩) ?_
  simp only [Act.put, List.setIfInBounds_toArray, List.set_cons_zero, List.set_cons_succ]
  refine q_pick rfl _ _ _ rfl true rfl (.bool true) rfl ?_
  simp only [Act.put, List.setIfInBounds_toArray, List.set_cons_zero, List.set_cons_succ]
  refine q_assign rfl _ rfl (.bool true) rfl ?_
  simp only [Act.put, List.setIfInBounds_toArray, List.set_cons_zero, List.set_cons_succ]
  refine wpQuiet_nil ?_
  intro w4 hw4
  go_wp2
  go_ret
  exact ⟨rfl, hw4.2⟩
end Go.Proofs.YtojnfhmmglbmkaaDoor.Tok
