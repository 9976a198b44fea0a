/- Polyval. -/
import Derived.Test.YtfchbodbkdkcfaaField
import Derived.Test.YtfchbodbkdkcfaaRegion
namespace Go.Proofs.Ytfchbodbkdkcfaa.Polyval
open Go.RowKit Go.Lib
open Go.Proofs.Ytfchbodbkdkcfaa.Blk Go.Proofs.Ytfchbodbkdkcfaa.Poly Go.Proofs.Ytfchbodbkdkcfaa.Field

/-! Polyval -/
/-- blocks in a row of memory -/
def Blks (w : World) (b off : Nat) (ns : List Nat) : Prop := ∀ i, i < ns.length → w.rangeAt b (off + i * 16) (arr .u8 16 fun j => (byt (ns.getD i 0) j : Int)).toList
def polyN (h : Nat) (ns : List Nat) : Nat := ns.foldl (fun s n => dotN (s ^^^ n) h 128) 0
theorem polyN_lt (h : Nat) : ∀ (ns : List Nat) (s : Nat), s < 2 ^ 128 → (∀ n ∈ ns, n < 2 ^ 128) → ns.foldl (fun s n => dotN (s ^^^ n) h 128) s < 2 ^ 128
  | [], _, hs, _ => hs
  | n :: r, _, hs, hn => polyN_lt h r _ (dotN_lt _ _ (Nat.xor_lt_two_pow hs (hn n (List.mem_cons_self ..))) _) (fun x hx => hn x (List.mem_cons_of_mem _ hx))
theorem polyN_snoc (h : Nat) (ns : List Nat) (k : Nat) (hk : k < ns.length) : polyN h (ns.take (k + 1)) = dotN (polyN h (ns.take k) ^^^ ns.getD k 0) h 128 := by
  unfold polyN
  rw [List.take_add_one, List.foldl_append, List.getElem?_eq_getElem hk]
  simp [List.getD_eq_getElem?_getD, List.getElem?_eq_getElem hk]

structure PolRel (h : Nat) (s : Nat) (B : Nat) (w wr : World) : Prop where
  a : Arr wr B .u8 16 48 (fun i => (byt h i : Int))
  b : Arr wr (B + 1) .u8 16 48 (fun _ => 0)
  c : Arr wr (B + 1 + 1) .u8 16 48 (fun i => (byt s i : Int))
  bel : Below B w wr

theorem range_of {w : World} {b : Nat} {k : IntKind} {n : Nat} {t : TypeId} {f : Nat → Int} (h : Arr w b k n t f) : w.rangeAt b 0 (arr k n f).toList := fun j v hv => by
  rw [Nat.zero_add, cell_of_row w b j _ _ _ h]
  simpa using hv

/-- what stands while a round's statement is carried out -/
structure Step (h s n B b2 N : Nat) (w w' : World) : Prop where
  rel : PolRel h s B w w'
  blk : Arr w' b2 .u8 16 48 (fun j => (byt n j : Int))
  size : N ≤ w'.heap.size
theorem Step.drew {h s n B b2 N : Nat} {w w' : World} (hs : Step h s n B b2 N w w') : Step h s n B b2 N w w'.drew := ⟨⟨hs.1.1, hs.1.2, hs.1.3, hs.1.4.drew⟩, hs.2, hs.3⟩
theorem Step.below {h s n B b2 N : Nat} {w w' w2 : World} (hs : Step h s n B b2 N w w') (hB : B + 3 ≤ N) (h2 : b2 < N) (hb : Below w'.heap.size w' w2) : Step h s n B b2 N w w2 :=
  have := hs.3
  ⟨⟨hs.1.1.below hb (by omega), hs.1.2.below hb (by omega), hs.1.3.below hb (by omega), hs.1.4.trans (hb.mono (by omega))⟩, hs.2.below hb (by omega), Nat.le_trans hs.3 hb.size⟩

set_option maxRecDepth 100000 in
set_option maxHeartbeats 800000 in
theorem polyval_any (h : Nat) (ns : List Nat) (b off cap : Nat) (w : World) (hns : ∀ n ∈ ns, n < 2 ^ 128) (hbl : Blks w b off ns) (hb : b < w.heap.size) (hlen : ns.length < 1000000) :
    Calls Try.prog 18 #[B16 h, .slice (some ⟨b, off, none⟩) ns.length cap] w fun e w' => e = .returned (B16 (polyN h ns)) ∧ Below w.heap.size w w' := by
  have H0 := three_of (fun i => (byt h i : Int)) (fun _ => 0) w
  rw [zero16] at H0
  have HB := Lib.hid hbl
  have HN := Lib.hid hns
  have HP := Lib.hid (polyN_snoc h ns)
  have HL : Hid (∀ k, polyN h (ns.take k) < 2 ^ 128) := Lib.hid fun k => polyN_lt h _ 0 (by decide) (fun n hn => HN.out n (List.mem_of_mem_take hn))
  have HE : Hid (polyN h (ns.take ns.length) = polyN h ns) := Lib.hid (by rw [List.take_length])
  have HG : Hid (∀ k, k < ns.length → ns.getD k 0 < 2 ^ 128) := Lib.hid fun k hk => HN.out _ (by simp [List.getD_eq_getElem?_getD, List.getElem?_eq_getElem hk])
  clear hbl hns HN
  generalize hpo : (fun k => polyN h (ns.take k)) = po at *
  have hpo' : ∀ k, polyN h (ns.take k) = po k := fun k => by rw [← hpo]
  have HP0 : Hid (po 0 = 0) := Lib.hid (by rw [← hpo' 0]; rfl)
  rw [hpo'] at HE
  simp only [hpo'] at HP HL
  clear hpo hpo'
  generalize hln : ns.length = len at *
  have HLN := Lib.hid hln
  clear hln
  have H1 : Hid (PolRel h (po 0) w.heap.size w _) := Lib.hid ⟨H0.a, H0.b, H0.c.congr (fun i _ => by rw [HP0.out]; simp [byt]), H0.bel⟩
  clear H0
  go_enter Try.func18, Try.ntmps18
  go_wp2
  go_loopw [10] (fun i wr => ∃ k : Nat, k ≤ len ∧ i = .int .i64 k ∧ PolRel h (po k) w.heap.size w wr) (fun i _ => len - (intOf i).toNat)
  case atStart => exact ⟨0, by omega, rfl, H1.out⟩
  case round =>
    obtain ⟨k, hk, rfl, hr⟩ := hrel
    have HR := Lib.hid hr
    clear hr
    by_cases hlt : k < len
    · have hrg : Hid (wr.rangeAt b (off + k * 16) (arr .u8 16 fun j => (byt (ns.getD k 0) j : Int)).toList) := Lib.hid fun j v hv => by
        rw [HR.out.bel.cell hb]
        exact HB.out k (by rw [HLN.out]; exact hlt) j v hv
      generalize hnk : ns.getD k 0 = nk at *
      have HNK := Lib.hid hnk
      clear hnk
      have hz := Lib.hid (Arr.new wr .u8 16 48 fun _ => 0)
      rw [zero16] at hz
      go_wp2_with (first | (refine wpList_load_mid rfl 48 _ rfl b _ rfl _ _ hrg.out Try.underlying48 rfl (by simp only [Array.length_toList, arr_size]; exact info16) ?_) | (refine wpList_store_arr rfl 48 _ _ rfl _ rfl (by rfl) hz.out info16 ?_; intro w2 hA hG hS))
      have W2 : Hid (w.heap.size + 3 ≤ w2.heap.size ∧ wr.heap.size + 1 = w2.heap.size ∧ w.heap.size + 3 ≤ wr.heap.size) := Lib.hid (by have := HR.out.c.lt; rw [hS]; simp; omega)
      have A2 : Hid (PolRel h (po k) w.heap.size w w2) := Lib.hid ⟨(HR.out.a.alloc _).grown hG (by have := W2.out; omega), (HR.out.b.alloc _).grown hG (by have := W2.out; omega), (HR.out.c.alloc _).grown hG (by have := W2.out; omega),
        (HR.out.bel.alloc (by have := W2.out; omega) _).grown hG (by have := W2.out; simp; omega) (by intro j hj; cases hj; have := W2.out; omega)⟩
      have A3 := Lib.hid hA
      clear hA hG hS
      have HZ : Hid (w.heap.size + 3 ≤ w2.heap.size ∧ wr.heap.size < w2.heap.size) := Lib.hid (by have := W2.out; omega)
      have S0 : Hid (Step h (po k) nk w.heap.size wr.heap.size w2.heap.size w w2) := Lib.hid ⟨A2.out, A3.out, Nat.le_refl _⟩
      refine Reg.wp_region_tail (C := Step h (po k) nk w.heap.size wr.heap.size w2.heap.size w) (by kernel_rfl) (by kernel_rfl) S0.out.drew ?_
      simp only [Reg.idleLast, Reg.lastOf, Reg.idle]
      refine Reg.wpQuiet_load_arr rfl 48 _ rfl _ rfl (fun _ hs => hs.rel.c) Try.underlying48 rfl info16 ?_
      refine Reg.wpQuiet_load_arr rfl 48 _ rfl _ rfl (fun _ hs => hs.blk) Try.underlying48 rfl info16 ?_
      simp only [Act.put, List.setIfInBounds_toArray, List.set_cons_zero, List.set_cons_succ]
      refine wpQuiet_step (fun K hK => ?_)
      go_simp
      refine ⟨_, fun w3 hs3 => (xor_num _ _ _).mono fun e w' ⟨he, hb3⟩ => ⟨he, hs3.below HZ.out.1 HZ.out.2 hb3⟩, hK _ ?_⟩
      clear hK K
      refine Reg.wpQuiet_load_arr rfl 48 _ rfl _ rfl (fun _ hs => hs.rel.a) Try.underlying48 rfl info16 ?_
      simp only [Act.put, List.setIfInBounds_toArray, List.set_cons_zero, List.set_cons_succ]
      refine wpQuiet_step (fun K hK => ?_)
      go_simp
      refine ⟨_, fun w3 hs3 => (dot_any _ _ (Nat.xor_lt_two_pow (HL.out k) (by have := HG.out k hlt; rw [HNK.out] at this; exact this)) _).mono fun e w' ⟨he, hb3⟩ => ⟨he, hs3.below HZ.out.1 HZ.out.2 hb3⟩, hK _ ?_⟩
      clear hK K
      refine Reg.wpQuiet_idle rfl rfl rfl ?_
      intro w3 hs3
      have H3 := Lib.hid hs3
      have hge := hs3.size
      clear hs3
      go_wp2_with (refine wpList_store_arr rfl 48 _ _ rfl _ rfl rfl H3.out.rel.c info16 ?_; intro w4 hA hG hS)
      have hw4 : PolRel h (dotN (po k ^^^ nk) h 128) w.heap.size w w4 := ⟨H3.out.rel.a.grown hG (by omega), H3.out.rel.b.grown hG (by omega), hA, H3.out.rel.bel.grown hG H3.out.rel.bel.size (by intro j hj; cases hj; omega)⟩
      have H4 := Lib.hid hw4
      clear hA hG hS hw4
      go_wp2
      go_roundw
      case rel => exact ⟨k + 1, by omega, by go_num, by rw [HP.out k hlt, HNK.out]; exact H4.out⟩
      case measure => simp [intOf]; omega
    · obtain rfl : k = len := by omega
      go_wp2_with (first | (refine wpList_load_arr rfl 48 _ rfl _ rfl HR.out.c Try.underlying48 rfl info16 ?_) | (refine wpList_store_arr rfl 48 _ _ rfl _ rfl rfl HR.out.b info16 ?_; intro w4 hA hG hS))
      exact ret_arr rfl rfl hA Try.underlying48 rfl info16 rfl ⟨by rw [HE.out], HR.out.bel.grown hG HR.out.bel.size (by intro j hj; cases hj; omega)⟩

end Go.Proofs.Ytfchbodbkdkcfaa.Polyval
