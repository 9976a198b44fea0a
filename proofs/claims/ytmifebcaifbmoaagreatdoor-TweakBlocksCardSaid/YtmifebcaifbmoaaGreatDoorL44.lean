/- Parts of the proof of TweakBlocks. OpenB: Arguments that are blocks, or lists of blocks, opened: numbers below 2^128. General lemmas. OpenM: The tables of names, read off what the row lists; a Pick, bytes and numbers that came in. OpenV: The variables of words, read off what a row lists. RowTweakBlocks: TweakBlocks: for every input the law returns true, and each argument reads as it did. No condition. -/
import Derived.Test.YtmifebcaifbmoaaGreatDoorL00
import Derived.Test.YtmifebcaifbmoaaGreatDoorL10
import Derived.Deep.Slices
import Derived.ChangeSame
import Derived.WideShapes
import Derived.Test.YtmifebcaifbmoaaGreatDoorL42
import Derived.Test.YtmifebcaifbmoaaGreatDoorL22
import Derived.Test.YtmifebcaifbmoaaGreatDoorRows
import Derived.ChangeSlices
import Derived.Lib.LaidU8T
import Derived.Test.YtmifebcaifbmoaaGreatDoorCards
import Derived.Test.YtmifebcaifbmoaaGreatDoorTie
import Derived.PinnedBridge
import Derived.Lay
import Derived.LaidOnce
import Derived.Lib.LaidIn
import Derived.Test.YtmifebcaifbmoaaGreatDoorL43
/- OpenB -/
section
namespace Go.Proofs.YtmifebcaifbmoaaGreatDoor.OpenB
open Go.RowKit Go.Lib Go.ChangeShapes Go.WideShapes Go.Deep Go.Proofs.YtmifebcaifbmoaaGreatDoor.Blk Go.Proofs.YtmifebcaifbmoaaGreatDoor.Poly

section
variable {H : Type} {enc : TypeId × Value → H} {P : Program} {w : World} {base : Nat} {spare : Nat → Bool} {held : Bool}

theorem mapM_u8 {e : TypeId} (he : P.underlying e = some (.int .u8)) {fuel : Nat} {cs : List Value} : ∀ (L : List Nat) (ys : List (DataW H × List MemPlace)),
    L.mapM (fun i => DataW.trod enc P w base spare held fuel e ((cs.drop i).take 1)) = some ys → ∀ i ∈ L, ∃ n : Nat, n < 256 ∧ cs[i]? = some (.int .u8 n)
  | [], _, _, i, hi => by cases hi
  | j :: L, ys, h, i, hi => by
    rw [List.mapM_cons] at h
    simp only [bind, Option.bind_eq_some_iff, pure, Option.some.injEq] at h
    obtain ⟨y, hy, zs, hzs, rfl⟩ := h
    rcases List.mem_cons.1 hi with rfl | hi
    · obtain ⟨a, ea, rfl, wa⟩ := DataW.trod_int he hy
      have hb : 0 ≤ a ∧ a < 256 := by
        simp [Lit.wf, IntKind.min, IntKind.max, IntKind.signed, IntKind.bits] at wa
        omega
      refine ⟨a.toNat, by omega, ?_⟩
      rw [cell_of_cut ea, Int.toNat_of_nonneg hb.1]
    · exact mapM_u8 he L zs hzs i hi

/-- sixteen bytes are a number's -/
theorem trod_block {t e : TypeId} (hu : P.underlying t = some (.array 16 e)) (he : P.underlying e = some (.int .u8)) (hs : P.cellsOf e = 1) (ht : P.cellsOf t = 16) {fuel : Nat} {cs : List Value} {x : DataW H × List MemPlace}
    (h : DataW.trod enc P w base spare held fuel t cs = some x) : ∃ n : Nat, n < 2 ^ 128 ∧ cs = (arr .u8 16 fun i => (byt n i : Int)).toList := by
  cases fuel with
  | zero => simp [DataW.trod] at h
  | succ m =>
    unfold DataW.trod at h
    simp only [hu, hs, Nat.mul_one] at h
    split at h
    case isFalse => cases h
    rename_i hl
    rw [ht] at hl
    simp only [Option.map_eq_some_iff] at h
    obtain ⟨ys, hy, _⟩ := h
    have key := mapM_u8 he _ _ hy
    obtain ⟨f, hf⟩ := choose_lt (α := Nat) (n := 16) (p := fun i n => n < 256 ∧ cs[i]? = some (.int .u8 n)) (fun i hi => key i (by simpa using hi))
    have hf' : ∀ i, (fun i => if i < 16 then f i else 0) i < 256 := fun i => by
      dsimp only
      split
      · exact (hf i ‹_›).1
      · decide
    refine ⟨lowN (fun i => if i < 16 then f i else 0) 16, lowN_lt _ hf' 16, ?_⟩
    apply List.ext_getElem?
    intro i
    by_cases hi : i < 16
    · rw [(hf i hi).2, Array.getElem?_toList, arr_get _ _ _ _ hi, byt_lowN hf' hi]
      simp [hi]
    · rw [List.getElem?_eq_none (by omega), List.getElem?_eq_none (by rw [Array.length_toList, arr_size]; omega)]

/-- AN ARGUMENT THAT IS A BLOCK -/
theorem open_block {t e : TypeId} (hu : P.underlying t = some (.array 16 e)) (he : P.underlying e = some (.int .u8)) (hs : P.cellsOf e = 1) (ht : P.cellsOf t = 16) {r : Reach} {b0 : Nat} {v : Value} {d : DataW H} {ps : List MemPlace}
    (hval : Value.okWide P w r b0 t v) (h : DataW.Trod enc P w base spare held t v d ps) : ∃ n : Nat, n < 2 ^ 128 ∧ v = A16 fun i => (byt n i : Int) := by
  simp only [Value.okWide, hu] at hval
  obtain ⟨cs, rfl, _, _⟩ := hval
  obtain ⟨fuel, hf⟩ := h
  obtain ⟨n, hn, e1⟩ := trod_block hu he hs ht hf
  refine ⟨n, hn, ?_⟩
  simp only [Value.cells] at e1
  rw [← Array.toArray_toList (xs := cs), e1]

end
end Go.Proofs.YtmifebcaifbmoaaGreatDoor.OpenB
end

/- OpenM -/
section
namespace Go.Proofs.YtmifebcaifbmoaaGreatDoor.OpenM
open Go.ChangeShapes Go.WideShapes Go.ChangeAt Go.RowKit Go.Lib Go.Deep Go.Proofs.YtmifebcaifbmoaaGreatDoor.Tab Go.Proofs.YtmifebcaifbmoaaGreatDoor.Byts
section
variable {P : Program} {w : World}
/-- a listed slice -/
theorem open_listed {name : String} {t e : TypeId} {sz g : Nat} {dl : List (DataW Unit)} (hV : VarReads P w name (.slice dl [])) (hg : P.globalNamed name = some g) (hty : (P.globals[g]?).map (·.type) = some t) (ht : P.underlying t = some (.slice e)) (hc : P.cellsOf e = sz) (hz : 0 < sz) (hn : 0 < dl.length) :
    ∃ b o cap, w.cell? ⟨g, 0, none⟩ = some (.slice (some ⟨b, o, none⟩) dl.length cap) ∧ dl.length ≤ cap ∧ cap ≤ maxLen ∧
      ∀ i (hi : i < dl.length), ∃ l n p, l.length = sz ∧ DataW.trod (fun _ => ()) P w 0 (fun _ => true) false n e l = some (dl[i]'hi, p) ∧ ∀ k, k < sz → w.cell? ⟨b, o + (i * sz + k), none⟩ = l[k]? := by
  obtain ⟨g', t', cs, fuel, p, hg', ht', hvar, hd⟩ := hV
  obtain rfl := Option.some.inj (hg.symm.trans hg')
  obtain rfl := Option.some.inj (hty.symm.trans ht')
  rcases open_slice ht hd with ⟨_, hx⟩ | ⟨a, len, cap, m, n, D, Pl, hv, _, hl, hm, hmm, hx, hel⟩
  · simp at hx
  · simp only [Prod.mk.injEq, DataW.slice.injEq] at hx
    obtain ⟨⟨hx, _⟩, _⟩ := hx
    simp only [if_true] at hmm
    have hlen : dl.length = len := by rw [hx]; simp
    subst hlen
    have cell0 : w.cell? ⟨g, 0, none⟩ = some (.slice (some a) dl.length cap) := by
      rw [World.var?_cell hg hvar, ← Array.getElem?_toList, hv]
      rfl
    have each : ∀ i (hi : i < dl.length), ∃ l n p, l.length = sz ∧ DataW.trod (fun _ => ()) P w 0 (fun _ => true) false n e l = some (dl[i]'hi, p) ∧ ∀ k, k < sz → w.cell? ((a.add (i * sz)).add k) = l[k]? := fun i hi => by
      obtain ⟨cs', h1, h2⟩ := hel i (by omega)
      rw [hc] at h1
      have h3 := World.cells?_some h1
      have e1 : dl[i]'hi = D i := by
        have := congrArg (fun l => l[i]?) hx
        simp only [List.getElem?_map, List.getElem?_range hi, Option.map_some] at this
        rw [List.getElem?_eq_getElem hi] at this
        exact Option.some.inj this
      exact ⟨cs', n, Pl i, h3.2.1, by rw [e1]; exact h2, h3.2.2⟩
    obtain ⟨l0, _, _, h1, _, h3⟩ := each 0 hn
    have h4 := h3 0 hz
    rw [List.getElem?_eq_getElem (by omega), Nat.zero_mul] at h4
    obtain ⟨b, o, sp⟩ := a
    have hsp : sp = none := by simpa [Addr.add] using World.cell?_spot h4
    subst hsp
    refine ⟨b, o, cap, cell0, hl, hm, fun i hi => ?_⟩
    obtain ⟨l, n', p', h5, h6, h7⟩ := each i hi
    refine ⟨l, n', p', h5, h6, fun k hk => ?_⟩
    rw [← h7 k hk, Addr.add_mid, Addr.add_mid, Nat.add_assoc]
theorem lit_str {n : Nat} {t : TypeId} {v : Value} {b : List UInt8} {s : ByteArray} {p : List MemPlace} (hu : P.underlying t = some .string) (h : DataW.trod (fun _ : TypeId × Value => ()) P w 0 (fun _ => true) false n t [v] = some (.lit (.string b), p)) (hs : b = s.data.toList) : v = .string s := by
  obtain ⟨s', e, hx, _⟩ := DataW.trod_string hu h
  simp only [List.cons.injEq, and_true] at e
  simp only [Prod.mk.injEq, DataW.lit.injEq, Lit.string.injEq] at hx
  rw [e]
  congr 1
  have h1 : s.data.toList = s'.data.toList := hs.symm.trans hx.1
  cases s; cases s'
  simp only [ByteArray.mk.injEq]
  exact Array.toList_inj.1 h1.symm
theorem lit_int {n : Nat} {t : TypeId} {v : Value} {k : IntKind} {z : Int} {p : List MemPlace} (hu : P.underlying t = some (.int k)) (h : DataW.trod (fun _ : TypeId × Value => ()) P w 0 (fun _ => true) false n t [v] = some (.lit (.int k z), p)) : v = .int k z := by
  obtain ⟨z', e, hx, _⟩ := DataW.trod_int hu h
  simp only [List.cons.injEq, and_true] at e
  simp only [Prod.mk.injEq, DataW.lit.injEq, Lit.int.injEq, true_and] at hx
  rw [e, hx.1]
end
section
variable {P : Program} {w : World} {r : Reach} {b : Nat} {t : TypeId} {v : Value}
theorem cell_int {k : IntKind} (hu : P.underlying t = some (.int k)) (h : Cell.okWide P w r b t v) : ∃ z, v = .int k z ∧ k.has z := by
  unfold Cell.okWide at h
  rw [hu] at h
  cases v <;> simp_all [Cell.ok]
theorem open_cells {fs : Array Field} {ts : List TypeId} {n : Nat} (hs : P.underlying t = some (.struct fs)) (hc : P.cellTypes P.depth t = some ts) (hsz : P.cellsOf t = n) (h : Value.okWide P w r b t v) :
    ∃ cs : Array Value, v = .agg cs ∧ cs.size = n ∧ ∀ (i : Nat) (u : TypeId) (x : Value), ts[i]? = some u → cs[i]? = some x → Cell.okWide P w r b u x := by
  simp only [Value.okWide, hs] at h
  obtain ⟨cs, rfl, h1, ts', h2, _, h3⟩ := h
  obtain rfl : ts = ts' := Option.some.inj (hc.symm.trans h2)
  refine ⟨cs, rfl, h1.trans hsz, fun i u x hu hx => ?_⟩
  obtain ⟨u', hu', hk⟩ := h3 i x hx
  have hi : i < ts.length := (List.getElem?_eq_some_iff.1 hu).1
  rw [Nat.mod_eq_of_lt hi, hu] at hu'
  cases hu'
  exact hk
end

theorem sizes_data : ∃ dl, (Rows.laid_coffer_tweak_sizes : DataW Unit) = .slice dl [] ∧ dl.length = 3 ∧ ∀ k, k < 3 → dl[k]? = some (.agg [.lit (.string (pre k).data.toList), .lit (.int .i64 (aesT k : Nat))]) :=
  ⟨_, rfl, rfl, fun k hk => by
    match k, hk with
    | 0, _ => rfl
    | 1, _ => rfl
    | 2, _ => rfl⟩
theorem modes_data : ∃ dl, (Rows.laid_coffer_cofferref03_modes : DataW Unit) = .slice dl [] ∧ dl.length = 17 ∧ ∀ k, k < 17 → dl[k]? = some (.agg [.lit (.string (nm k).data.toList), .lit (.string (mdT k).data.toList), .lit (.string (stT k).data.toList), .lit (.int .i64 (moT k))]) :=
  ⟨_, rfl, rfl, fun k hk => by
    match k, hk with
    | 0, _ => rfl
    | 1, _ => rfl
    | 2, _ => rfl
    | 3, _ => rfl
    | 4, _ => rfl
    | 5, _ => rfl
    | 6, _ => rfl
    | 7, _ => rfl
    | 8, _ => rfl
    | 9, _ => rfl
    | 10, _ => rfl
    | 11, _ => rfl
    | 12, _ => rfl
    | 13, _ => rfl
    | 14, _ => rfl
    | 15, _ => rfl
    | 16, _ => rfl
    | k + 17, hk => exact absurd hk (by omega)⟩
set_option maxRecDepth 100000 in
theorem sizes_of {w : World} (hV : VarReads Tryz.prog w "coffer/tweak.sizes" Rows.laid_coffer_tweak_sizes) : Sizes w := by
  obtain ⟨dl, e, hl, hd⟩ := sizes_data
  rw [e] at hV
  obtain ⟨b, o, cap, h0, h1, h2, h3⟩ := open_listed (t := 85) (e := 86) (sz := 2) (g := 0) hV (by kernel_rfl) (by kernel_rfl) Tryz.underlying85 (by kernel_rfl) (by decide) (by omega)
  rw [hl] at h0 h1
  refine ⟨b, o, cap, h0, h1, h2, fun i hi => ?_⟩
  obtain ⟨l, n, p, hll, ht, hc⟩ := h3 i (by omega)
  have hz := hd i hi
  rw [List.getElem?_eq_getElem (by omega)] at hz
  rw [Option.some.inj hz] at ht
  obtain ⟨xs, m, _, hx, _, hlen, hf⟩ := DataW.trod_struct Tryz.underlying86 ht
  simp only [Prod.mk.injEq, DataW.agg.injEq] at hx
  match l, hll, xs, hlen with
  | [a0, a1], _, [y0, y1], _ =>
    obtain ⟨hx, _⟩ := hx
    simp only [List.map_cons, List.map_nil, List.cons.injEq, and_true] at hx
    have g0 := hf 0 _ rfl
    have g1 := hf 1 _ rfl
    simp only [List.getElem?_cons_zero, List.getElem?_cons_succ] at g0 g1
    obtain rfl := lit_str (p := y0.2) Tryz.underlying9 (g0.trans (by rw [hx.1])) rfl
    obtain rfl := lit_int (p := y1.2) Tryz.underlying3 (g1.trans (by rw [hx.2]))
    exact ⟨hc 0 (by omega), hc 1 (by omega)⟩
set_option maxRecDepth 100000 in
theorem modes_of {w : World} (hV : VarReads Tryz.prog w "coffer/cofferref03.modes" Rows.laid_coffer_cofferref03_modes) : Modes w := by
  obtain ⟨dl, e, hl, hd⟩ := modes_data
  rw [e] at hV
  obtain ⟨b, o, cap, h0, h1, h2, h3⟩ := open_listed (t := 115) (e := 116) (sz := 4) (g := 1) hV (by kernel_rfl) (by kernel_rfl) Tryz.underlying115 (by kernel_rfl) (by decide) (by omega)
  rw [hl] at h0 h1
  refine ⟨b, o, cap, h0, h1, h2, fun i hi => ?_⟩
  obtain ⟨l, n, p, hll, ht, hc⟩ := h3 i (by omega)
  have hz := hd i hi
  rw [List.getElem?_eq_getElem (by omega)] at hz
  rw [Option.some.inj hz] at ht
  obtain ⟨xs, m, _, hx, _, hlen, hf⟩ := DataW.trod_struct Tryz.underlying116 ht
  simp only [Prod.mk.injEq, DataW.agg.injEq] at hx
  match l, hll, xs, hlen with
  | [a0, a1, a2, a3], _, [y0, y1, y2, y3], _ =>
    obtain ⟨hx, _⟩ := hx
    simp only [List.map_cons, List.map_nil, List.cons.injEq, and_true] at hx
    have g0 := hf 0 _ rfl
    have g1 := hf 1 _ rfl
    have g2 := hf 2 _ rfl
    have g3 := hf 3 _ rfl
    simp only [List.getElem?_cons_zero, List.getElem?_cons_succ] at g0 g1 g2 g3
    obtain rfl := lit_str (p := y0.2) Tryz.underlying9 (g0.trans (by rw [hx.1])) rfl
    obtain rfl := lit_str (p := y1.2) (s := mdT i) Tryz.underlying9 (g1.trans (by rw [hx.2.1])) rfl
    obtain rfl := lit_str (p := y2.2) (s := stT i) Tryz.underlying9 (g2.trans (by rw [hx.2.2.1])) rfl
    obtain rfl := lit_int (p := y3.2) Tryz.underlying3 (g3.trans (by rw [hx.2.2.2]))
    exact ⟨hc 0 (by omega), hc 1 (by omega), hc 2 (by omega), hc 3 (by omega)⟩

section
variable {H : Type} {enc : TypeId × Value → H} {P : Program}
/-- bytes that came in -/
theorem open_u8 {w : World} {held : Bool} {fuel : Nat} {t e : TypeId} {v : Value} {y : DataW H × List MemPlace} (ht : P.underlying t = some (.slice e)) (he : P.underlying e = some (.int .u8)) (hc : P.cellsOf e = 1)
    (h : DataW.trod enc P w 0 (fun _ => true) held fuel t [v] = some y) :
    ∃ (q : Option Addr) (n cap : Nat) (f : Nat → Nat), v = .slice q n cap ∧ n ≤ cap ∧ cap ≤ 9223372036854775807 ∧ (∀ j, f j < 256) ∧ BL w q n f := by
  rcases open_ints ht he hc h with ⟨hv, _⟩ | ⟨a, len, cap, zs, hv, _, hl, hm, hz, hx, hcell, hwf⟩
  · simp only [List.cons.injEq, and_true] at hv
    exact ⟨none, 0, 0, fun _ => 0, hv, Nat.le_refl _, by decide, fun _ => Nat.zero_lt_succ _, fun i hi => by omega⟩
  · simp only [List.cons.injEq, and_true] at hv
    simp only [if_true] at hz
    refine ⟨some a, len, cap, fun i => (zs.getD i 0).toNat % 256, hv, hl, hm, fun _ => Nat.mod_lt _ (by decide), fun i hi => ?_⟩
    have hc2 := hcell i (by omega)
    have h0 := hcell 0 (by omega)
    obtain ⟨b, o, sp⟩ := a
    have hsp : sp = none := by simpa [Addr.add] using World.cell?_spot h0
    subst hsp
    refine ⟨b, o, rfl, ?_⟩
    have hb : 0 ≤ zs.getD i 0 ∧ zs.getD i 0 ≤ 255 := by
      have hi2 : i < zs.length := by omega
      refine bounds_u8 (hwf _ ?_)
      rw [List.getD_eq_getElem?_getD, List.getElem?_eq_getElem hi2]
      exact List.getElem_mem hi2
    have e : (((zs.getD i 0).toNat % 256 : Nat) : Int) = zs.getD i 0 := by omega
    rw [e, ← hc2, Addr.add_mid]
end
section
variable {H : Type} {enc : TypeId × Value → H} {w : World} {held : Bool}
theorem rc_list : ∀ i, i < 10 → (([1, 2, 4, 8, 16, 32, 64, 128, 27, 54] : List Int).getD i 0) = ((Aes.rc i : Nat) : Int) := by decide
theorem has_of {z : Int} (h : (Lit.int .i64 z).wf = true) : IntKind.i64.has z := by
  have := bounds_i64 h
  constructor <;> simp [IntKind.min, IntKind.max, IntKind.signed, IntKind.bits] <;> omega
set_option maxRecDepth 100000 in
/-- a pick that came in -/
theorem open_pick {r : Reach} {b : Nat} {v : Value} {d : DataW H} {pl : List MemPlace} (hv : Value.okWide Tryz.prog w r b 24 v) (h : DataW.Trod enc Tryz.prog w 0 (fun _ => true) held 24 v d pl) :
    ∃ (z : Int) (q : Option Addr) (n cap : Nat) (f : Nat → Nat), v = pickV z q n cap ∧ IntKind.i64.has z ∧ n ≤ cap ∧ cap ≤ 9223372036854775807 ∧ (∀ j, f j < 256) ∧ BL w q n f := by
  obtain ⟨cs, rfl, hn, hk⟩ := open_cells (ts := [3, 22]) (n := 2) Tryz.underlying24 (by kernel_rfl) (by kernel_rfl) hv
  obtain ⟨l⟩ := cs
  match l, hn with
  | [a0, a1], _ =>
    obtain ⟨z, rfl, hz⟩ := cell_int Tryz.underlying3 (hk 0 _ _ rfl rfl)
    obtain ⟨fuel, hf1⟩ := h
    obtain ⟨y0, y1, n0, _, _, _, h1⟩ := trod_struct2 Tryz.underlying24 hf1
    have kS : Tryz.prog.cellsOf 22 = 1 := by kernel_rfl
    have h2 : DataW.trod enc Tryz.prog w 0 (fun _ => true) held n0 22 [a1] = some y1 := by
      rw [← h1]
      show _ = DataW.trod enc Tryz.prog w 0 (fun _ => true) held n0 22 (([Value.int .i64 z, a1].drop 1).take (Tryz.prog.cellsOf 22))
      rw [kS]
      rfl
    obtain ⟨q, n, cap, f, rfl, e1, e2, e3, e4⟩ := open_u8 Tryz.underlying22 Tryz.underlying5 (by kernel_rfl) h2
    exact ⟨z, q, n, cap, f, rfl, hz, e1, e2, e3, e4⟩
set_option maxRecDepth 100000 in
/-- bytes that came in, as an argument -/
theorem open_bytes {r : Reach} {b : Nat} {v : Value} {d : DataW H} {pl : List MemPlace} (hv : Value.okWide Tryz.prog w r b 22 v) (h : DataW.Trod enc Tryz.prog w 0 (fun _ => true) held 22 v d pl) :
    ∃ (q : Option Addr) (n cap : Nat) (f : Nat → Nat), v = .slice q n cap ∧ n ≤ cap ∧ cap ≤ 9223372036854775807 ∧ (∀ j, f j < 256) ∧ BL w q n f := by
  obtain ⟨fuel, hf⟩ := h
  obtain ⟨a0, len0, cap0, rfl⟩ := okWide_slice Tryz.underlying22 hv
  exact open_u8 Tryz.underlying22 Tryz.underlying5 (by kernel_rfl) hf
end
end Go.Proofs.YtmifebcaifbmoaaGreatDoor.OpenM
end

/- OpenV -/
section
namespace Go.Proofs.YtmifebcaifbmoaaGreatDoor.OpenV
open Go.ChangeShapes Go.WideShapes Go.ChangeAt Go.RowKit Go.Lib Go.Deep Go.Proofs.YtmifebcaifbmoaaGreatDoor.Tab Go.Proofs.YtmifebcaifbmoaaGreatDoor.Byts Go.Proofs.YtmifebcaifbmoaaGreatDoor.Dig
/-- the numbers of a listed array -/
def zsOf : DataW Unit → List Int
  | .agg l => l.map fun d => match d with | .lit (.int _ z) => z | _ => 0
  | _ => []
theorem words_laid {P : Program} {W : World} {laid : List (String × DataW Unit)} {name : String} {g n : Nat} {t e : TypeId} (D : DataW Unit) (hD : D = .agg ((zsOf D).map fun z => .lit (.int .u64 z))) (hn : (zsOf D).length = n)
    (h : laidMetH P laid W) (hp : (laid.filter fun x => x.2.handleName?.isSome) = []) (hm : (name, D) ∈ laid)
    (hg : P.globalNamed name = some g) (hty : (P.globals[g]?).map (·.type) = some t) (ha : P.underlying t = some (.array n e)) (he : P.underlying e = some (.int .u64)) (hc : P.cellsOf e = 1) : WordsAt g n W := fun i hi => by
  rw [hD] at hm
  exact ⟨_, Frame.ints_of_laid h hp hm hg hty ha he hc i (by omega)⟩
end Go.Proofs.YtmifebcaifbmoaaGreatDoor.OpenV
end

/- RowTweakBlocks -/
section
namespace Go.Proofs.YtmifebcaifbmoaaGreatDoor.RowTweakBlocks
open Go.ChangeShapes Go.WideShapes Go.ChangeAt Go.RowKit
theorem own : ownKnob Tryz.prog.godebug = none := by kernel_rfl
set_option maxRecDepth 100000 in
theorem lifted (os : Os) (started : os.Started) (H : Type) (enc : TypeId × Value → H) :
    ReturnsInHanded {} Tryz.checked os 3 .any (fun w args => (Rows.tweakBlocksSpec.pre enc Tryz.prog Tryz.f3 [] false w args ∧ laidMetH Tryz.prog Rows.tweakBlocksRow.laid w) ∧ sizedMet enc Tryz.prog Tryz.f3 (OpenSpec.ofChange Rows.tweakBlocksSpec) false w args)
      (Rows.tweakBlocksSpec.post enc Tryz.prog Tryz.f3 false true false false) := by
  refine Frame.law_returns_laid (C := Tryz.checked) own started (by kernel_rfl) Tryz.func3 (by kernel_rfl) rfl rfl Tryz.underlying4
    (fun ds h => by match ds, h with | [d1, d2, d3, d4, d5, d6], _ => rfl) (by kernel_rfl)
    (ChangeSpec.witness_shaped (enc := enc) (C := Tryz.checked) (os := os) (X := fun w _ => laidMetH Tryz.prog Rows.tweakBlocksRow.laid w) false (World.laidAll Tryz.prog os Rows.tweakBlocksRow.laid) #[.agg #[.int .i64 0, .slice none 0 0], .int .u64 0, .slice none 0 0, .int .i64 0, .int .i64 0, .agg #[.int .u8 0, .int .u8 0, .int .u8 0, .int .u8 0, .int .u8 0, .int .u8 0, .int .u8 0, .int .u8 0, .int .u8 0, .int .u8 0, .int .u8 0, .int .u8 0, .int .u8 0, .int .u8 0, .int .u8 0, .int .u8 0]] 8 (World.laidAll_os _ _ _)
      (World.shaped_of_ZipB (by kernel_rfl) (by kernel_rfl)) (by kernel_rfl) (by kernel_rfl) (by kernel_rfl)
      (by rw [MakeChecks.laidMetH_plain _ _ _ (by kernel_rfl)]; exact laidMet_laidAll _ (by kernel_rfl) (by kernel_rfl))) ?_
  intro W base args ds p hval0 hA0 hsz hfz hL
  have hval : ∀ (j : Nat) t v, Tryz.f3.params[j]? = some t → args[j]? = some v → Value.okWide Tryz.prog W .any base t v := hval0
  have hA : DataW.TrodAll enc Tryz.prog W 0 (fun _ => true) true Tryz.f3.params.toList args.toList ds p := hA0
  rw [Tryz.params3] at hA hval
  clear hA0 hval0
  obtain ⟨v0, vs0, d0, ds0, p0, q0, hargs, rfl, rfl, h0, r0⟩ := trodAll_cons hA
  obtain ⟨v1, vs1, d1, ds1, p1, q1, rfl, rfl, rfl, h1, r1⟩ := trodAll_cons r0
  obtain ⟨v2, vs2, d2, ds2, p2, q2, rfl, rfl, rfl, h2, r2⟩ := trodAll_cons r1
  obtain ⟨v3, vs3, d3, ds3, p3, q3, rfl, rfl, rfl, h3, r3⟩ := trodAll_cons r2
  obtain ⟨v4, vs4, d4, ds4, p4, q4, rfl, rfl, rfl, h4, r4⟩ := trodAll_cons r3
  obtain ⟨v5, vs5, d5, ds5, p5, q5, rfl, rfl, rfl, h5, r5⟩ := trodAll_cons r4
  obtain ⟨rfl, rfl, rfl⟩ := trodAll_nil r5
  obtain rfl : args = #[v0, v1, v2, v3, v4, v5] := by rw [← Array.toArray_toList (xs := args), hargs]
  obtain ⟨z, q, n, cap, f, rfl, hz, e1, e2, e3, e4⟩ := OpenM.open_pick (hval 0 24 v0 rfl rfl) h0
  obtain ⟨s, rfl, rfl, rfl, ws⟩ := open_int Tryz.underlying25 (hval 1 25 v1 rfl rfl) h1
  obtain ⟨bq, bn, bcap, fb, rfl, g1, g2, g3, g4⟩ := OpenM.open_bytes (hval 2 22 v2 rfl rfl) h2
  obtain ⟨nz, rfl, rfl, rfl, wn⟩ := open_int Tryz.underlying3 (hval 3 3 v3 rfl rfl) h3
  obtain ⟨jz, rfl, rfl, rfl, wj⟩ := open_int Tryz.underlying3 (hval 4 3 v4 rfl rfl) h4
  obtain ⟨xn, hx, rfl⟩ := OpenB.open_block Tryz.underlying27 Tryz.underlying5 (by kernel_rfl) (by kernel_rfl) (hval 5 27 _ rfl rfl) h5
  have bs := bounds_u64 ws
  obtain ⟨s', rfl⟩ := Int.eq_ofNat_of_zero_le bs.1
  have hR0 := Frame.ints_of_laid (g := 2) (zs := [1, 2, 4, 8, 16, 32, 64, 128, 27, 54]) (n := 10) hL (by kernel_rfl) (.tail _ (.tail _ (.tail _ (.head _)))) (by kernel_rfl) (by kernel_rfl) Tryz.underlying135 Tryz.underlying5 (by kernel_rfl)
  have hR : Tw.RconAt W := fun i hi => (hR0 i hi).trans (by rw [OpenM.rc_list i hi])
  have c1 := OpenV.words_laid (g := 4) (n := 80) Rows.laid_coffer_cofferref01_cubes (by kernel_rfl) (by kernel_rfl) hL (by kernel_rfl) (.head _) (by kernel_rfl) (by kernel_rfl) Tryz.underlying184 Tryz.underlying25 (by kernel_rfl)
  have s1 := OpenV.words_laid (g := 3) (n := 16) Rows.laid_coffer_cofferref01_squares (by kernel_rfl) (by kernel_rfl) hL (by kernel_rfl) (.tail _ (.head _)) (by kernel_rfl) (by kernel_rfl) Tryz.underlying182 Tryz.underlying25 (by kernel_rfl)
  have c2 := OpenV.words_laid (g := 7) (n := 80) Rows.laid_coffer_digest_cubes (by kernel_rfl) (by kernel_rfl) hL (by kernel_rfl) (.tail _ (.tail _ (.tail _ (.tail _ (.head _))))) (by kernel_rfl) (by kernel_rfl) Tryz.underlying184 Tryz.underlying25 (by kernel_rfl)
  have s2 := OpenV.words_laid (g := 6) (n := 16) Rows.laid_coffer_digest_squares (by kernel_rfl) (by kernel_rfl) hL (by kernel_rfl) (.tail _ (.tail _ (.tail _ (.tail _ (.tail _ (.head _)))))) (by kernel_rfl) (by kernel_rfl) Tryz.underlying182 Tryz.underlying25 (by kernel_rfl)
  rw [MakeChecks.laidMetH_plain _ _ _ (by kernel_rfl)] at hL
  have hM := OpenM.modes_of (Lib.laidMet.reads hL (.tail _ (.tail _ (.head _))))
  have hS := OpenM.sizes_of (Lib.laidMet.reads hL (.tail _ (.tail _ (.tail _ (.tail _ (.tail _ (.tail _ (.head _))))))))
  exact TBlocks.law_any z nz jz hz (OpenM.has_of wn) s' (by omega) q n cap f e3 bq bn bcap fb g3 xn W ⟨hM, hS, hR, ⟨c2, s2⟩, ⟨c1, s1⟩⟩ e4 e1 e2 g4 g1 g2
theorem row_holds : Rows.TweakBlocksSaid :=
  OpenClaim.holds_of_wide 3 Tryz.f3 rfl rfl rfl rfl rfl rfl rfl ⟨rfl, rfl, rfl, rfl, rfl⟩ rfl rfl rfl rfl rfl (by kernel_rfl) Tryz.func3 (by kernel_rfl)
    (of_decide_eq_true (by kernel_rfl)) (by unfold Func.isWrapper; first | (rw [if_pos (by decide +kernel)]; kernel_rfl) | (rw [if_neg (by decide +kernel)]; exact ⟨rfl, rfl⟩))
    (fun os started H enc _ => lifted os started H enc)
theorem card_holds : Rows.TweakBlocksCardSaid :=
  Claim7.holds_tied_plain_at .later [] [.data, .data, .data, .data, .data, .data, .data] true Rows.tweakBlocksCard.stood.harness Rows.tweakBlocksCard.stood.looks
    row_holds (fun _ h => by cases h) (by kernel_rfl) (fun _ h => by cases h) tweakBlocks_row_tie rfl ⟨rfl, rfl⟩ (by kernel_rfl) rfl
    (fun f fn hf hfn => by
      obtain rfl : f = 3 := Option.some.inj ((show Tryz.prog.funcNamed "coffer/cofferlaw03.TweakBlocks" = some 3 by kernel_rfl).symm.trans hf) |>.symm
      obtain rfl : fn = Tryz.f3 := (Option.some.inj (Tryz.func3.symm.trans hfn)).symm
      exact ⟨by kernel_rfl, fun j t ht => Frame.no_stand_ins (fn := Tryz.f3) (by kernel_rfl) ht⟩)
    (by kernel_rfl)
end Go.Proofs.YtmifebcaifbmoaaGreatDoor.RowTweakBlocks
namespace Go.Proofs.YtmifebcaifbmoaaGreatDoor
/-- The statement, under a short name, for the claim. -/
theorem tweakBlocks_holds : Rows.TweakBlocksCardSaid := RowTweakBlocks.card_holds
end Go.Proofs.YtmifebcaifbmoaaGreatDoor
end
