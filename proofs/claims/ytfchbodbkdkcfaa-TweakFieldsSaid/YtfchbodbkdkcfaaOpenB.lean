/- Arguments that are blocks, or lists of blocks, opened: numbers below 2^128. General lemmas. -/
import Derived.Test.YtfchbodbkdkcfaaBlk
import Derived.Test.YtfchbodbkdkcfaaPoly
import Derived.Deep.Slices
import Derived.ChangeSame
import Derived.WideShapes
namespace Go.Proofs.Ytfchbodbkdkcfaa.OpenB
open Go.RowKit Go.Lib Go.ChangeShapes Go.WideShapes Go.Deep Go.Proofs.Ytfchbodbkdkcfaa.Blk Go.Proofs.Ytfchbodbkdkcfaa.Poly

section
variable {H : Type} {enc : TypeId × Value → H} {P : Program} {w : World} {base : Nat} {spare : Nat → Bool} {held : Bool}

theorem mapM_u8 {e : TypeId} (he : P.underlying e = some (.int .u8)) {fuel : Nat} {cs : List Value} : ∀ (L : List Nat) (ys : List (DataW H × List MemPlace)),
    L.mapM (fun i => DataW.trod enc P w base spare held fuel e ((cs.drop i).take 1)) = some ys → ∀ i ∈ L, ∃ n : Nat, n < 256 ∧ cs[i]? = some (.int .u8 n)
  | [], _, _, i, hi => by cases hi
  | j :: L, ys, h, i, hi => by
    rw [List.mapM_cons] at h
    simp only [bind, Option.bind_eq_some_iff, pure, Option.some.injEq] at h
    obtain ⟨y, hy, zs, hzs, rfl⟩ := h
    rcases List.mem_cons.1 hi with rfl | hi
    · obtain ⟨a, ea, rfl, wa⟩ := DataW.trod_int he hy
      have hb : 0 ≤ a ∧ a < 256 := by
        simp [Lit.wf, IntKind.min, IntKind.max, IntKind.signed, IntKind.bits] at wa
        omega
      refine ⟨a.toNat, by omega, ?_⟩
      rw [cell_of_cut ea, Int.toNat_of_nonneg hb.1]
    · exact mapM_u8 he L zs hzs i hi

/-- sixteen bytes are a number's -/
theorem trod_block {t e : TypeId} (hu : P.underlying t = some (.array 16 e)) (he : P.underlying e = some (.int .u8)) (hs : P.cellsOf e = 1) (ht : P.cellsOf t = 16) {fuel : Nat} {cs : List Value} {x : DataW H × List MemPlace}
    (h : DataW.trod enc P w base spare held fuel t cs = some x) : ∃ n : Nat, n < 2 ^ 128 ∧ cs = (arr .u8 16 fun i => (byt n i : Int)).toList := by
  cases fuel with
  | zero => simp [DataW.trod] at h
  | succ m =>
    unfold DataW.trod at h
    simp only [hu, hs, Nat.mul_one] at h
    split at h
    case isFalse => cases h
    rename_i hl
    rw [ht] at hl
    simp only [Option.map_eq_some_iff] at h
    obtain ⟨ys, hy, _⟩ := h
    have key := mapM_u8 he _ _ hy
    obtain ⟨f, hf⟩ := choose_lt (α := Nat) (n := 16) (p := fun i n => n < 256 ∧ cs[i]? = some (.int .u8 n)) (fun i hi => key i (by simpa using hi))
    have hf' : ∀ i, (fun i => if i < 16 then f i else 0) i < 256 := fun i => by
      dsimp only
      split
      · exact (hf i ‹_›).1
      · decide
    refine ⟨lowN (fun i => if i < 16 then f i else 0) 16, lowN_lt _ hf' 16, ?_⟩
    apply List.ext_getElem?
    intro i
    by_cases hi : i < 16
    · rw [(hf i hi).2, Array.getElem?_toList, arr_get _ _ _ _ hi, byt_lowN hf' hi]
      simp [hi]
    · rw [List.getElem?_eq_none (by omega), List.getElem?_eq_none (by rw [Array.length_toList, arr_size]; omega)]

/-- AN ARGUMENT THAT IS A BLOCK -/
theorem open_block {t e : TypeId} (hu : P.underlying t = some (.array 16 e)) (he : P.underlying e = some (.int .u8)) (hs : P.cellsOf e = 1) (ht : P.cellsOf t = 16) {r : Reach} {b0 : Nat} {v : Value} {d : DataW H} {ps : List MemPlace}
    (hval : Value.okWide P w r b0 t v) (h : DataW.Trod enc P w base spare held t v d ps) : ∃ n : Nat, n < 2 ^ 128 ∧ v = A16 fun i => (byt n i : Int) := by
  simp only [Value.okWide, hu] at hval
  obtain ⟨cs, rfl, _, _⟩ := hval
  obtain ⟨fuel, hf⟩ := h
  obtain ⟨n, hn, e1⟩ := trod_block hu he hs ht hf
  refine ⟨n, hn, ?_⟩
  simp only [Value.cells] at e1
  rw [← Array.toArray_toList (xs := cs), e1]

/-- AN ARGUMENT THAT IS A LIST OF BLOCKS -/
theorem open_blocks {q t e : TypeId} (hq : P.underlying q = some (.slice t)) (hu : P.underlying t = some (.array 16 e)) (he : P.underlying e = some (.int .u8)) (hs : P.cellsOf e = 1) (ht : P.cellsOf t = 16) {r : Reach} {b0 : Nat} {v : Value} {d : DataW H} {ps : List MemPlace}
    (hval : Value.okWide P w r b0 q v) (h : DataW.Trod enc P w base spare held q v d ps) :
    v = .slice none 0 0 ∨ ∃ (b off len cap : Nat) (ns : List Nat), v = .slice (some ⟨b, off, none⟩) len cap ∧ len ≤ cap ∧ cap ≤ maxLen ∧ ns.length = len ∧ b < w.heap.size ∧ (∀ n ∈ ns, n < 2 ^ 128) ∧
      ∀ i, i < len → w.rangeAt b (off + i * 16) (arr .u8 16 fun j => (byt (ns.getD i 0) j : Int)).toList := by
  obtain ⟨fuel, hf⟩ := h
  obtain ⟨a0, len0, cap0, rfl⟩ := okWide_slice hq hval
  rcases open_slice hq hf with ⟨hcs, _⟩ | ⟨a, len, cap, m, n, D, Pl, hcs, hb, hl, hm, hmm, _, hx⟩
  · left
    simpa [Value.cells] using hcs
  right
  simp only [Value.cells, List.cons.injEq, and_true] at hcs
  injection hcs with h1 h2 h3
  subst h1 h2 h3
  have hok : w.has P r b0 a t cap0 := by
    simp only [Value.okWide, hq, Cell.okWide, Cell.ok] at hval
    exact hval.2.2
  obtain ⟨_, hspot, row, cells, hsh, _⟩ := hok
  have hblk : a.block < w.heap.size := by
    unfold World.shape? at hsh
    rcases Nat.lt_or_ge a.block w.heap.size with h' | h'
    · exact h'
    · rw [Array.getElem?_eq_none h'] at hsh
      simp at hsh
  obtain ⟨b, off, spot⟩ := a
  obtain rfl : spot = none := hspot
  have hlm : len0 ≤ m := by rw [hmm]; split <;> omega
  have each : ∀ i, i < len0 → ∃ n : Nat, n < 2 ^ 128 ∧ w.rangeAt b (off + i * 16) (arr .u8 16 fun j => (byt n j : Int)).toList := by
    intro i hi
    obtain ⟨cs', h1, h2⟩ := hx i (by omega)
    obtain ⟨k, hk, rfl⟩ := trod_block hu he hs ht h2
    refine ⟨k, hk, fun j v hv => ?_⟩
    have hj : j < 16 := by
      have := (List.getElem?_eq_some_iff.1 hv).1
      simpa [arr] using this
    rw [ht] at h1
    have := (World.cells?_some h1).2.2 j hj
    rw [add_plain, add_plain, hv] at this
    exact this
  obtain ⟨f, hf'⟩ := choose_lt each
  refine ⟨b, off, len0, cap0, (List.range len0).map f, rfl, hl, hm, by simp, hblk, ?_, fun i hi => ?_⟩
  · intro n hn
    simp only [List.mem_map, List.mem_range] at hn
    obtain ⟨i, hi, rfl⟩ := hn
    exact (hf' i hi).1
  · have : ((List.range len0).map f).getD i 0 = f i := by simp [hi]
    rw [this]
    exact (hf' i hi).2
end
end Go.Proofs.Ytfchbodbkdkcfaa.OpenB
