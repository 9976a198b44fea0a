/- A Start of cofferlaw13 that came in. -/
import Derived.Test.YtfchbodbkdkcfaaDoorBegin2
namespace Go.Proofs.YtfchbodbkdkcfaaDoor.Rk
open Go.ChangeShapes Go.WideShapes Go.ChangeAt Go.RowKit Go.Lib Go.Deep
open Go.Proofs.YtfchbodbkdkcfaaDoor.Coll Go.Proofs.YtfchbodbkdkcfaaDoor.Meta

theorem list38 {cs : Array Value} (h : cs.size = 38) : ∃ a0 a1 a2 a3 a4 a5 a6 a7 a8 a9 a10 a11 a12 a13 a14 a15 a16 a17 a18 a19 a20 a21 a22 a23 a24 a25 a26 a27 a28 a29 a30 a31 a32 a33 a34 a35 a36 a37, cs = #[a0, a1, a2, a3, a4, a5, a6, a7, a8, a9, a10, a11, a12, a13, a14, a15, a16, a17, a18, a19, a20, a21, a22, a23, a24, a25, a26, a27, a28, a29, a30, a31, a32, a33, a34, a35, a36, a37] := by
  obtain ⟨l⟩ := cs
  match l, h with
  | a0 :: a1 :: a2 :: a3 :: a4 :: a5 :: a6 :: a7 :: a8 :: a9 :: a10 :: a11 :: a12 :: a13 :: a14 :: a15 :: a16 :: a17 :: a18 :: a19 :: a20 :: a21 :: a22 :: a23 :: a24 :: a25 :: a26 :: a27 :: a28 :: a29 :: a30 :: a31 :: a32 :: a33 :: a34 :: a35 :: a36 :: a37 :: [], _ => exact ⟨a0, a1, a2, a3, a4, a5, a6, a7, a8, a9, a10, a11, a12, a13, a14, a15, a16, a17, a18, a19, a20, a21, a22, a23, a24, a25, a26, a27, a28, a29, a30, a31, a32, a33, a34, a35, a36, a37, rfl⟩
def startC (m : MetaD) (p : Places) (d : EpochD) (off size : Int) (t : TurnD) : Array Value := (metaL m (.slice p.qs m.slots.length p.ks) (.slice p.qe m.epochs.length p.ke) (.slice p.qg m.segs.length p.kg) (.slice p.qt m.toks.length p.kt) ++ epochC d ++ areaC off size ++ turnC t).toArray
def startV (m : MetaD) (p : Places) (d : EpochD) (off size : Int) (t : TurnD) : Value := .agg (startC m p d off size t)
section
variable {H : Type} {enc : TypeId × Value → H} {w : World} {held : Bool}
set_option maxRecDepth 100000 in
theorem open_start {r : Reach} {b : Nat} {v : Value} {d : DataW H} {pl : List MemPlace} {ts : List TypeId} {ds : List (DataW H)} {j : Nat} (hv : Value.okWide Tryd.prog w r b 68 v) (h : DataW.Trod enc Tryd.prog w 0 (fun _ => true) held 68 v d pl)
    (hsz : (DataW.weightsEach Tryd.prog ts ds).all (· ≤ reachBytes) = true) (ht : ts[j]? = some 68) (hd : ds[j]? = some d) :
    ∃ m p d off size t, v = startV m p d off size t ∧ MIn w m p ∧ MR m ∧ IntKind.u64.has t.hot ∧ IntKind.i64.has size := by
  obtain ⟨cs, rfl, hn, hk⟩ := open_cells (ts := [9, 9, 9, 9, 3, 22, 3, 3, 3, 9, 9, 47, 48, 49,
    4, 22, 22, 4, 3, 22, 22, 2, 2, 4, 22, 9, 54, 22, 9, 9, 9, 9, 2, 2, 9, 3, 4, 22]) (n := 38) Tryd.underlying68 (by kernel_rfl) (by kernel_rfl) hv
  obtain ⟨a0, a1, a2, a3, a4, a5, a6, a7, a8, a9, a10, a11, a12, a13, a14, a15, a16, a17, a18, a19, a20, a21, a22, a23, a24, a25, a26, a27, a28, a29, a30, a31, a32, a33, a34, a35, a36, a37, rfl⟩ := list38 hn
  obtain ⟨z0, rfl, _⟩ := cell_str Tryd.underlying9 (hk 0 _ _ rfl rfl)
  obtain ⟨z1, rfl, _⟩ := cell_str Tryd.underlying9 (hk 1 _ _ rfl rfl)
  obtain ⟨z2, rfl, _⟩ := cell_str Tryd.underlying9 (hk 2 _ _ rfl rfl)
  obtain ⟨z3, rfl, _⟩ := cell_str Tryd.underlying9 (hk 3 _ _ rfl rfl)
  obtain ⟨z4, rfl, r4⟩ := cell_int Tryd.underlying3 (hk 4 _ _ rfl rfl)
  obtain ⟨z5, rfl, r5⟩ := cell_int Tryd.underlying22 (hk 5 _ _ rfl rfl)
  obtain ⟨z6, rfl, r6⟩ := cell_int Tryd.underlying3 (hk 6 _ _ rfl rfl)
  obtain ⟨z7, rfl, r7⟩ := cell_int Tryd.underlying3 (hk 7 _ _ rfl rfl)
  obtain ⟨z8, rfl, r8⟩ := cell_int Tryd.underlying3 (hk 8 _ _ rfl rfl)
  obtain ⟨z9, rfl, _⟩ := cell_str Tryd.underlying9 (hk 9 _ _ rfl rfl)
  obtain ⟨z10, rfl, _⟩ := cell_str Tryd.underlying9 (hk 10 _ _ rfl rfl)
  obtain ⟨z14, rfl⟩ := cell_bool Tryd.underlying4 (hk 14 _ _ rfl rfl)
  obtain ⟨z15, rfl, r15⟩ := cell_int Tryd.underlying22 (hk 15 _ _ rfl rfl)
  obtain ⟨z16, rfl, r16⟩ := cell_int Tryd.underlying22 (hk 16 _ _ rfl rfl)
  obtain ⟨z17, rfl⟩ := cell_bool Tryd.underlying4 (hk 17 _ _ rfl rfl)
  obtain ⟨z18, rfl, r18⟩ := cell_int Tryd.underlying3 (hk 18 _ _ rfl rfl)
  obtain ⟨z19, rfl, r19⟩ := cell_int Tryd.underlying22 (hk 19 _ _ rfl rfl)
  obtain ⟨z20, rfl, r20⟩ := cell_int Tryd.underlying22 (hk 20 _ _ rfl rfl)
  obtain ⟨z21, rfl, r21⟩ := cell_int Tryd.underlying2 (hk 21 _ _ rfl rfl)
  obtain ⟨z22, rfl, r22⟩ := cell_int Tryd.underlying2 (hk 22 _ _ rfl rfl)
  obtain ⟨z23, rfl⟩ := cell_bool Tryd.underlying4 (hk 23 _ _ rfl rfl)
  obtain ⟨z24, rfl, r24⟩ := cell_int Tryd.underlying22 (hk 24 _ _ rfl rfl)
  obtain ⟨z25, rfl, _⟩ := cell_str Tryd.underlying9 (hk 25 _ _ rfl rfl)
  obtain ⟨z27, rfl, _⟩ := cell_int Tryd.underlying22 (hk 27 _ _ rfl rfl)
  obtain ⟨z28, rfl, _⟩ := cell_str Tryd.underlying9 (hk 28 _ _ rfl rfl)
  obtain ⟨z29, rfl, _⟩ := cell_str Tryd.underlying9 (hk 29 _ _ rfl rfl)
  obtain ⟨z30, rfl, _⟩ := cell_str Tryd.underlying9 (hk 30 _ _ rfl rfl)
  obtain ⟨z31, rfl, _⟩ := cell_str Tryd.underlying9 (hk 31 _ _ rfl rfl)
  obtain ⟨z32, rfl, r32⟩ := cell_int Tryd.underlying2 (hk 32 _ _ rfl rfl)
  obtain ⟨z33, rfl, r33⟩ := cell_int Tryd.underlying2 (hk 33 _ _ rfl rfl)
  obtain ⟨z34, rfl, _⟩ := cell_str Tryd.underlying9 (hk 34 _ _ rfl rfl)
  obtain ⟨z35, rfl, _⟩ := cell_int Tryd.underlying3 (hk 35 _ _ rfl rfl)
  obtain ⟨z36, rfl⟩ := cell_bool Tryd.underlying4 (hk 36 _ _ rfl rfl)
  obtain ⟨z37, rfl, r37⟩ := cell_int Tryd.underlying22 (hk 37 _ _ rfl rfl)
  obtain ⟨fuel, hf1⟩ := h
  obtain ⟨xs0, n0, _, hx0, _, hlen0, hf2⟩ := DataW.trod_struct Tryd.underlying68 hf1
  simp only [Prod.mk.injEq] at hx0
  obtain ⟨rfl, _⟩ := hx0
  simp at hlen0
  have kM : Tryd.prog.cellsOf 56 = 27 := by kernel_rfl
  have hf0 := hf2 0 _ rfl
  simp only [Value.cells] at hf0
  rw [List.getElem?_eq_getElem (by omega)] at hf0
  have hsz1 := OpenT.sized_agg hsz ht hd Tryd.underlying68
  obtain ⟨y0, hy0⟩ : ∃ y, xs0[0]'(by omega) = y := ⟨_, rfl⟩
  rw [hy0] at hf0
  have hd0 : (xs0.map (·.1))[0]? = some y0.1 := by rw [List.getElem?_map, List.getElem?_eq_getElem (by omega), Option.map_some, hy0]
  obtain ⟨xs, n, _, hx, _, hlen, hf⟩ := DataW.trod_struct Tryd.underlying56 hf0
  have hxa : y0.1 = .agg (xs.map (·.1)) := by rw [hx]
  simp at hlen
  rw [hxa] at hd0
  have hsz2 := OpenT.sized_agg hsz1 (j := 0) (t := 56) rfl hd0 Tryd.underlying56
  have kS : Tryd.prog.cellsOf 47 = 1 := by kernel_rfl
  have kE : Tryd.prog.cellsOf 48 = 1 := by kernel_rfl
  have kG : Tryd.prog.cellsOf 49 = 1 := by kernel_rfl
  have kT : Tryd.prog.cellsOf 54 = 1 := by kernel_rfl
  have g6 := hf 6 _ rfl
  have g7 := hf 7 _ rfl
  have g8 := hf 8 _ rfl
  have g10 := hf 10 _ rfl
  skip
  rw [List.getElem?_eq_getElem (by omega)] at g6 g7 g8 g10
  obtain ⟨qs, ks, Ls, rfl, s1, s2, s3, s4, _, s6⟩ := open_rows Tryd.underlying47 (by kernel_rfl) g6 slotC (sz := 9) (fun _ => rfl) (by decide) (fun _ _ => True) slot_one
  obtain ⟨qe, ke, Le, rfl, e1, e2, e3, e4, _, e6⟩ := open_rows Tryd.underlying48 (by kernel_rfl) g7 epochC (sz := 5) (fun _ => rfl) (by decide) (fun _ _ => True) epoch_one
  obtain ⟨qg, kg, Lg, rfl, g1, g2, g3, g4, _, g6'⟩ := open_rows Tryd.underlying49 (by kernel_rfl) g8 sgC (sz := 3) (fun _ => rfl) (by decide) (fun _ _ => True) seg_one
  obtain ⟨qt, kt, Lt, rfl, t1, t2, t3, t4, t5, t6⟩ := open_rows Tryd.underlying54 (by kernel_rfl) g10 tokC (sz := 4) (fun _ => rfl) (by decide) (tokOke w) tok_one
  have bound : ∀ {i : Nat} {t e : TypeId} {by_ n : Nat} {y : DataW H} (hi : i < xs.length), (xs[i]'hi).1 = y → ((Tryd.prog.underlying 56).bind fun t => match t with | .struct fs => (fs.toList.map (·.type))[i]? | _ => none) = some t → Tryd.prog.underlying t = some (.slice e) → Tryd.prog.bytesOf e = by_ →
      (n = 0 ∨ ∃ es sp, y = .slice es sp ∧ es.length = n) → n * by_ ≤ reachBytes := fun {i t e by_ n y} hi hy htt hu hb ho => by
    rcases ho with rfl | ⟨es, sp, rfl, rfl⟩
    · omega
    · rw [Tryd.underlying56] at htt
      have := sized_slice hsz2 (j := i) htt (elems := es) (spare := sp) (by rw [List.getElem?_map, List.getElem?_eq_getElem hi, Option.map_some, hy]) hu
      rw [hb] at this
      exact Nat.le_trans (Nat.mul_le_mul_right _ (Nat.le_add_right _ _)) this
  refine ⟨⟨z0, z1, z2, z3, z4, z5, z6, z7, z8, z9, z10, Ls, Le, Lg, ⟨z14, z15, z16, z17, z18, z19, z20, z21, z22, z23, z24, z25⟩, Lt⟩, ⟨qs, ks, qe, ke, qg, kg, qt, kt⟩, ⟨z27, z28, z29, z30, z31⟩, z32, z33, ⟨z34, z35, z36, z37⟩, rfl, ⟨⟨s4, s1, s2, s3, ?_⟩, ⟨e4, e1, e2, e3, ?_⟩, ⟨g4, g1, g2, g3, ?_⟩, ⟨t4, t1, t2, t3, ?_⟩, ?_⟩, ⟨r4, r5, r6, r7, r8, r15, r16, r18, r19, r20, r21, r22, r24⟩, r37, r33⟩
  · exact bound (i := 6) (t := 47) (by omega) rfl rfl Tryd.underlying47 (by kernel_rfl) s6
  · exact bound (i := 7) (t := 48) (by omega) rfl rfl Tryd.underlying48 (by kernel_rfl) e6
  · exact bound (i := 8) (t := 49) (by omega) rfl rfl Tryd.underlying49 (by kernel_rfl) g6'
  · exact bound (i := 10) (t := 54) (by omega) rfl rfl Tryd.underlying54 (by kernel_rfl) t6
  · intro x hx
    obtain ⟨e, es, sp, ⟨⟨b1, b2, b3, b4⟩, b5⟩, hy, he⟩ := t5 x hx
    refine ⟨b1, b2, b3, b4, ?_⟩
    rcases b5 with b5 | ⟨parts, es2, sp2, rfl, hp2, hl2⟩
    · omega
    · have hm : (es2.length + sp2.length) * Tryd.prog.bytesOf 3 ∈ DataW.weightsEach Tryd.prog (#[].toList.map (fun f : Field => f.type)) ([] : List (DataW H)) ∨ (es2.length + sp2.length) * Tryd.prog.bytesOf 3 ≤ reachBytes := .inr (by
        have hw : (es2.length + sp2.length) * Tryd.prog.bytesOf 3 ∈ DataW.weights Tryd.prog 54 (xs[10]'(by omega)).1 := by
          rw [hy]
          simp only [DataW.weights, Tryd.underlying54, List.mem_cons, List.mem_append]
          refine .inr (.inl (weightsAll_mem he _ ?_))
          simp only [DataW.weights, Tryd.underlying41]
          exact DataW.weights_mem_each (j := 2) (t := 39) rfl hp2 _ (by simp [DataW.weights, Tryd.underlying39])
        have := List.all_eq_true.1 hsz2 _ (DataW.weights_mem_each (j := 10) (t := 54) rfl (by rw [List.getElem?_map, List.getElem?_eq_getElem (by omega), Option.map_some]) _ hw)
        simpa using this)
      rcases hm with hm | hm
      · simp [DataW.weightsEach] at hm
      · rw [show Tryd.prog.bytesOf 3 = 8 by kernel_rfl] at hm
        unfold reachBytes at hm
        omega
end
end Go.Proofs.YtfchbodbkdkcfaaDoor.Rk
