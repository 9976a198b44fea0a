import Derived.Test.YtmifebcaifbmoaaGreatDoorJ35
import Derived.Test.YtmifebcaifbmoaaGreatDoorJ40
import Derived.Test.YtmifebcaifbmoaaGreatDoorJ30
import Derived.Test.YtmifebcaifbmoaaGreatDoorRows
import Derived.WideShapes
import Derived.ChangeSlices
import Derived.Lib.LaidU8T
import Derived.Deep.Slices
/- MadeK -/
section
namespace Go.Proofs.YtmifebcaifbmoaaGreatDoor.G
open Go.RowKit Go.Lib Go.Proofs.YtmifebcaifbmoaaGreatDoor.Blk Go.Proofs.YtmifebcaifbmoaaGreatDoor.Aes Go.Proofs.YtmifebcaifbmoaaGreatDoor.Tab Go.Proofs.YtmifebcaifbmoaaGreatDoor.Byts Go.Proofs.YtmifebcaifbmoaaGreatDoor.Push Go.Proofs.YtmifebcaifbmoaaGreatDoor.Tw

/-- all that a made cipher asks of the variables -/
structure Vars (w : World) : Prop where
  m : Modes w
  s : Sizes w
  r : RconAt w
  d : DgW w
  g : Ref3.RgW w
theorem Vars.below {w w' : World} (h : Vars w) (b : Below w.heap.size w w') : Vars w' := ⟨h.m.below b, h.s.below b, h.r.below b, h.d.below b, h.g.below b⟩
/-- a cipher of XTS -/
def PrX (E : Nat → Nat) (cb : Nat) (w : World) : Prop := ∃ k iv O, ∃ T : Nat → Nat, CiphG k cb true iv (fun s n f => xtsF E false (T s) n f) O w
theorem PrX.kp {E : Nat → Nat} (cb : Nat) (w1 w2 : World) (h : PrX E cb w1) (q : Kp w1 w2) : PrX E cb w2 := by
  obtain ⟨k, iv, O, T, h⟩ := h
  exact ⟨k, iv, O, T, h.kp q⟩
/-- a cipher of CBC, opened -/
def PrC (D : Nat → Nat) (cb : Nat) (w : World) : Prop := ∃ k iv S, CiphG k cb false iv S (fun s n f => cbcO D (iv s n) n f) w
theorem PrC.kp {D : Nat → Nat} (cb : Nat) (w1 w2 : World) (h : PrC D cb w1) (q : Kp w1 w2) : PrC D cb w2 := by
  obtain ⟨k, iv, S, h⟩ := h
  exact ⟨k, iv, S, h.kp q⟩
/-- a cipher of ECB -/
def PrE (E : Nat → Nat) (cb : Nat) (w : World) : Prop := ∃ iv O, CiphG 0 cb false iv (fun _ n f => blkF (fun _ b => E b) f (n / 16)) O w
theorem PrE.kp {E : Nat → Nat} (cb : Nat) (w1 w2 : World) (h : PrE E cb w1) (q : Kp w1 w2) : PrE E cb w2 := by
  obtain ⟨iv, S, h⟩ := h
  exact ⟨iv, S, h.kp q⟩
section
variable (i0 : Nat) (hi : i0 < 3) (q : Option Addr) (n cap : Nat) (f : Nat → Nat) (hf : ∀ j, f j < 256) (w : World) (hV : Vars w) (hB : BL w q n f) (hnc : n ≤ cap) (hcm : cap ≤ 9223372036854775807)
include hi hf hV hB hnc hcm
theorem madeX10 : Calls Tryz.prog 11 #[pickV ((1 + 17 * i0 + 10 : Nat) : Int) q n cap] w fun e w' => ∃ cb rb, e = .returned (.tuple #[.pointer (some ⟨cb, 0, none⟩), .pointer (some ⟨rb, 0, none⟩), .bool true]) ∧ PrX (keyE (keyF n f) (4 + 2 * i0)) cb w' ∧ Below w.heap.size w w' :=
  made_any i0 10 hi (by decide) (2 * (16 + 8 * i0)) (by unfold szT; rw [if_pos (by decide)]; omega) (by omega) (PrX (keyE (keyF n f) (4 + 2 * i0))) PrX.kp q n cap f hf w hV.m hV.r hB hnc hcm
    (fun g c w' h1 h2 h3 b => (newXts10_any (keyF n f) i0 hi (keyF_lt hf) g 0 c w' h3 (hV.r.below b) (hV.s.below b) (hV.d.below b) h2 h1).mono fun e w2 ⟨cb, F, e1, e2, e3, e4⟩ => ⟨cb, e1, ⟨_, _, _, _, e3⟩, e4⟩)
    (fun g c w' h1 h2 h3 b => by
      have e : 2 * (16 + 8 * i0) = 8 * (4 + 2 * i0) := by omega
      rw [e] at h1 h2 ⊢
      exact Ref3.newK10_any i0 hi g 0 c (keyF n f) (keyF_lt hf) w' h1 h2 h3 (hV.m.below b) (hV.g.below b))
theorem madeX11 : Calls Tryz.prog 11 #[pickV ((1 + 17 * i0 + 11 : Nat) : Int) q n cap] w fun e w' => ∃ cb rb, e = .returned (.tuple #[.pointer (some ⟨cb, 0, none⟩), .pointer (some ⟨rb, 0, none⟩), .bool true]) ∧ PrX (keyE (keyF n f) (4 + 2 * i0)) cb w' ∧ Below w.heap.size w w' :=
  made_any i0 11 hi (by decide) (2 * (16 + 8 * i0)) (by unfold szT; rw [if_pos (by decide)]; omega) (by omega) (PrX (keyE (keyF n f) (4 + 2 * i0))) PrX.kp q n cap f hf w hV.m hV.r hB hnc hcm
    (fun g c w' h1 h2 h3 b => (newXts11_any (keyF n f) i0 hi (keyF_lt hf) g 0 c w' h3 (hV.r.below b) (hV.s.below b) (hV.d.below b) h2 h1).mono fun e w2 ⟨cb, F, e1, e2, e3, e4⟩ => ⟨cb, e1, ⟨_, _, _, _, e3⟩, e4⟩)
    (fun g c w' h1 h2 h3 b => by
      have e : 2 * (16 + 8 * i0) = 8 * (4 + 2 * i0) := by omega
      rw [e] at h1 h2 ⊢
      exact Ref3.newK11_any i0 hi g 0 c (keyF n f) (keyF_lt hf) w' h1 h2 h3 (hV.m.below b) (hV.g.below b))
theorem madeX12 : Calls Tryz.prog 11 #[pickV ((1 + 17 * i0 + 12 : Nat) : Int) q n cap] w fun e w' => ∃ cb rb, e = .returned (.tuple #[.pointer (some ⟨cb, 0, none⟩), .pointer (some ⟨rb, 0, none⟩), .bool true]) ∧ PrX (keyE (keyF n f) (4 + 2 * i0)) cb w' ∧ Below w.heap.size w w' :=
  made_any i0 12 hi (by decide) (2 * (16 + 8 * i0)) (by unfold szT; rw [if_pos (by decide)]; omega) (by omega) (PrX (keyE (keyF n f) (4 + 2 * i0))) PrX.kp q n cap f hf w hV.m hV.r hB hnc hcm
    (fun g c w' h1 h2 h3 b => (newXts12_any (keyF n f) i0 hi (keyF_lt hf) g 0 c w' h3 (hV.r.below b) (hV.s.below b) (hV.d.below b) h2 h1).mono fun e w2 ⟨cb, F, e1, e2, e3, e4⟩ => ⟨cb, e1, ⟨_, _, _, _, e3⟩, e4⟩)
    (fun g c w' h1 h2 h3 b => by
      have e : 2 * (16 + 8 * i0) = 8 * (4 + 2 * i0) := by omega
      rw [e] at h1 h2 ⊢
      exact Ref3.newK12_any i0 hi g 0 c (keyF n f) (keyF_lt hf) w' h1 h2 h3 (hV.m.below b) (hV.g.below b))
theorem madeX13 : Calls Tryz.prog 11 #[pickV ((1 + 17 * i0 + 13 : Nat) : Int) q n cap] w fun e w' => ∃ cb rb, e = .returned (.tuple #[.pointer (some ⟨cb, 0, none⟩), .pointer (some ⟨rb, 0, none⟩), .bool true]) ∧ PrX (keyE (keyF n f) (4 + 2 * i0)) cb w' ∧ Below w.heap.size w w' :=
  made_any i0 13 hi (by decide) (2 * (16 + 8 * i0)) (by unfold szT; rw [if_pos (by decide)]; omega) (by omega) (PrX (keyE (keyF n f) (4 + 2 * i0))) PrX.kp q n cap f hf w hV.m hV.r hB hnc hcm
    (fun g c w' h1 h2 h3 b => (newXts13_any (keyF n f) i0 hi (keyF_lt hf) g 0 c w' h3 (hV.r.below b) (hV.s.below b) (hV.d.below b) h2 h1).mono fun e w2 ⟨cb, F, e1, e2, e3, e4⟩ => ⟨cb, e1, ⟨_, _, _, _, e3⟩, e4⟩)
    (fun g c w' h1 h2 h3 b => by
      have e : 2 * (16 + 8 * i0) = 8 * (4 + 2 * i0) := by omega
      rw [e] at h1 h2 ⊢
      exact Ref3.newK13_any i0 hi g 0 c (keyF n f) (keyF_lt hf) w' h1 h2 h3 (hV.m.below b) (hV.g.below b))
end
end Go.Proofs.YtmifebcaifbmoaaGreatDoor.G
end

/- OpenM -/
section
namespace Go.Proofs.YtmifebcaifbmoaaGreatDoor.OpenM
open Go.ChangeShapes Go.WideShapes Go.ChangeAt Go.RowKit Go.Lib Go.Deep Go.Proofs.YtmifebcaifbmoaaGreatDoor.Tab Go.Proofs.YtmifebcaifbmoaaGreatDoor.Byts
section
variable {P : Program} {w : World}
/-- a listed slice -/
theorem open_listed {name : String} {t e : TypeId} {sz g : Nat} {dl : List (DataW Unit)} (hV : VarReads P w name (.slice dl [])) (hg : P.globalNamed name = some g) (hty : (P.globals[g]?).map (·.type) = some t) (ht : P.underlying t = some (.slice e)) (hc : P.cellsOf e = sz) (hz : 0 < sz) (hn : 0 < dl.length) :
    ∃ b o cap, w.cell? ⟨g, 0, none⟩ = some (.slice (some ⟨b, o, none⟩) dl.length cap) ∧ dl.length ≤ cap ∧ cap ≤ maxLen ∧
      ∀ i (hi : i < dl.length), ∃ l n p, l.length = sz ∧ DataW.trod (fun _ => ()) P w 0 (fun _ => true) false n e l = some (dl[i]'hi, p) ∧ ∀ k, k < sz → w.cell? ⟨b, o + (i * sz + k), none⟩ = l[k]? := by
  obtain ⟨g', t', cs, fuel, p, hg', ht', hvar, hd⟩ := hV
  obtain rfl := Option.some.inj (hg.symm.trans hg')
  obtain rfl := Option.some.inj (hty.symm.trans ht')
  rcases open_slice ht hd with ⟨_, hx⟩ | ⟨a, len, cap, m, n, D, Pl, hv, _, hl, hm, hmm, hx, hel⟩
  · simp at hx
  · simp only [Prod.mk.injEq, DataW.slice.injEq] at hx
    obtain ⟨⟨hx, _⟩, _⟩ := hx
    simp only [if_true] at hmm
    have hlen : dl.length = len := by rw [hx]; simp
    subst hlen
    have cell0 : w.cell? ⟨g, 0, none⟩ = some (.slice (some a) dl.length cap) := by
      rw [World.var?_cell hg hvar, ← Array.getElem?_toList, hv]
      rfl
    have each : ∀ i (hi : i < dl.length), ∃ l n p, l.length = sz ∧ DataW.trod (fun _ => ()) P w 0 (fun _ => true) false n e l = some (dl[i]'hi, p) ∧ ∀ k, k < sz → w.cell? ((a.add (i * sz)).add k) = l[k]? := fun i hi => by
      obtain ⟨cs', h1, h2⟩ := hel i (by omega)
      rw [hc] at h1
      have h3 := World.cells?_some h1
      have e1 : dl[i]'hi = D i := by
        have := congrArg (fun l => l[i]?) hx
        simp only [List.getElem?_map, List.getElem?_range hi, Option.map_some] at this
        rw [List.getElem?_eq_getElem hi] at this
        exact Option.some.inj this
      exact ⟨cs', n, Pl i, h3.2.1, by rw [e1]; exact h2, h3.2.2⟩
    obtain ⟨l0, _, _, h1, _, h3⟩ := each 0 hn
    have h4 := h3 0 hz
    rw [List.getElem?_eq_getElem (by omega), Nat.zero_mul] at h4
    obtain ⟨b, o, sp⟩ := a
    have hsp : sp = none := by simpa [Addr.add] using World.cell?_spot h4
    subst hsp
    refine ⟨b, o, cap, cell0, hl, hm, fun i hi => ?_⟩
    obtain ⟨l, n', p', h5, h6, h7⟩ := each i hi
    refine ⟨l, n', p', h5, h6, fun k hk => ?_⟩
    rw [← h7 k hk, Addr.add_mid, Addr.add_mid, Nat.add_assoc]
theorem lit_str {n : Nat} {t : TypeId} {v : Value} {b : List UInt8} {s : ByteArray} {p : List MemPlace} (hu : P.underlying t = some .string) (h : DataW.trod (fun _ : TypeId × Value => ()) P w 0 (fun _ => true) false n t [v] = some (.lit (.string b), p)) (hs : b = s.data.toList) : v = .string s := by
  obtain ⟨s', e, hx, _⟩ := DataW.trod_string hu h
  simp only [List.cons.injEq, and_true] at e
  simp only [Prod.mk.injEq, DataW.lit.injEq, Lit.string.injEq] at hx
  rw [e]
  congr 1
  have h1 : s.data.toList = s'.data.toList := hs.symm.trans hx.1
  cases s; cases s'
  simp only [ByteArray.mk.injEq]
  exact Array.toList_inj.1 h1.symm
theorem lit_int {n : Nat} {t : TypeId} {v : Value} {k : IntKind} {z : Int} {p : List MemPlace} (hu : P.underlying t = some (.int k)) (h : DataW.trod (fun _ : TypeId × Value => ()) P w 0 (fun _ => true) false n t [v] = some (.lit (.int k z), p)) : v = .int k z := by
  obtain ⟨z', e, hx, _⟩ := DataW.trod_int hu h
  simp only [List.cons.injEq, and_true] at e
  simp only [Prod.mk.injEq, DataW.lit.injEq, Lit.int.injEq, true_and] at hx
  rw [e, hx.1]
end
section
variable {P : Program} {w : World} {r : Reach} {b : Nat} {t : TypeId} {v : Value}
theorem cell_int {k : IntKind} (hu : P.underlying t = some (.int k)) (h : Cell.okWide P w r b t v) : ∃ z, v = .int k z ∧ k.has z := by
  unfold Cell.okWide at h
  rw [hu] at h
  cases v <;> simp_all [Cell.ok]
theorem open_cells {fs : Array Field} {ts : List TypeId} {n : Nat} (hs : P.underlying t = some (.struct fs)) (hc : P.cellTypes P.depth t = some ts) (hsz : P.cellsOf t = n) (h : Value.okWide P w r b t v) :
    ∃ cs : Array Value, v = .agg cs ∧ cs.size = n ∧ ∀ (i : Nat) (u : TypeId) (x : Value), ts[i]? = some u → cs[i]? = some x → Cell.okWide P w r b u x := by
  simp only [Value.okWide, hs] at h
  obtain ⟨cs, rfl, h1, ts', h2, _, h3⟩ := h
  obtain rfl : ts = ts' := Option.some.inj (hc.symm.trans h2)
  refine ⟨cs, rfl, h1.trans hsz, fun i u x hu hx => ?_⟩
  obtain ⟨u', hu', hk⟩ := h3 i x hx
  have hi : i < ts.length := (List.getElem?_eq_some_iff.1 hu).1
  rw [Nat.mod_eq_of_lt hi, hu] at hu'
  cases hu'
  exact hk
end

theorem sizes_data : ∃ dl, (Rows.laid_coffer_tweak_sizes : DataW Unit) = .slice dl [] ∧ dl.length = 3 ∧ ∀ k, k < 3 → dl[k]? = some (.agg [.lit (.string (pre k).data.toList), .lit (.int .i64 (aesT k : Nat))]) :=
  ⟨_, rfl, rfl, fun k hk => by
    match k, hk with
    | 0, _ => rfl
    | 1, _ => rfl
    | 2, _ => rfl⟩
theorem modes_data : ∃ dl, (Rows.laid_coffer_cofferref03_modes : DataW Unit) = .slice dl [] ∧ dl.length = 17 ∧ ∀ k, k < 17 → dl[k]? = some (.agg [.lit (.string (nm k).data.toList), .lit (.string (mdT k).data.toList), .lit (.string (stT k).data.toList), .lit (.int .i64 (moT k))]) :=
  ⟨_, rfl, rfl, fun k hk => by
    match k, hk with
    | 0, _ => rfl
    | 1, _ => rfl
    | 2, _ => rfl
    | 3, _ => rfl
    | 4, _ => rfl
    | 5, _ => rfl
    | 6, _ => rfl
    | 7, _ => rfl
    | 8, _ => rfl
    | 9, _ => rfl
    | 10, _ => rfl
    | 11, _ => rfl
    | 12, _ => rfl
    | 13, _ => rfl
    | 14, _ => rfl
    | 15, _ => rfl
    | 16, _ => rfl
    | k + 17, hk => exact absurd hk (by omega)⟩
set_option maxRecDepth 100000 in
theorem sizes_of {w : World} (hV : VarReads Tryz.prog w "coffer/tweak.sizes" Rows.laid_coffer_tweak_sizes) : Sizes w := by
  obtain ⟨dl, e, hl, hd⟩ := sizes_data
  rw [e] at hV
  obtain ⟨b, o, cap, h0, h1, h2, h3⟩ := open_listed (t := 85) (e := 86) (sz := 2) (g := 0) hV (by kernel_rfl) (by kernel_rfl) Tryz.underlying85 (by kernel_rfl) (by decide) (by omega)
  rw [hl] at h0 h1
  refine ⟨b, o, cap, h0, h1, h2, fun i hi => ?_⟩
  obtain ⟨l, n, p, hll, ht, hc⟩ := h3 i (by omega)
  have hz := hd i hi
  rw [List.getElem?_eq_getElem (by omega)] at hz
  rw [Option.some.inj hz] at ht
  obtain ⟨xs, m, _, hx, _, hlen, hf⟩ := DataW.trod_struct Tryz.underlying86 ht
  simp only [Prod.mk.injEq, DataW.agg.injEq] at hx
  match l, hll, xs, hlen with
  | [a0, a1], _, [y0, y1], _ =>
    obtain ⟨hx, _⟩ := hx
    simp only [List.map_cons, List.map_nil, List.cons.injEq, and_true] at hx
    have g0 := hf 0 _ rfl
    have g1 := hf 1 _ rfl
    simp only [List.getElem?_cons_zero, List.getElem?_cons_succ] at g0 g1
    obtain rfl := lit_str (p := y0.2) Tryz.underlying9 (g0.trans (by rw [hx.1])) rfl
    obtain rfl := lit_int (p := y1.2) Tryz.underlying3 (g1.trans (by rw [hx.2]))
    exact ⟨hc 0 (by omega), hc 1 (by omega)⟩
set_option maxRecDepth 100000 in
theorem modes_of {w : World} (hV : VarReads Tryz.prog w "coffer/cofferref03.modes" Rows.laid_coffer_cofferref03_modes) : Modes w := by
  obtain ⟨dl, e, hl, hd⟩ := modes_data
  rw [e] at hV
  obtain ⟨b, o, cap, h0, h1, h2, h3⟩ := open_listed (t := 115) (e := 116) (sz := 4) (g := 1) hV (by kernel_rfl) (by kernel_rfl) Tryz.underlying115 (by kernel_rfl) (by decide) (by omega)
  rw [hl] at h0 h1
  refine ⟨b, o, cap, h0, h1, h2, fun i hi => ?_⟩
  obtain ⟨l, n, p, hll, ht, hc⟩ := h3 i (by omega)
  have hz := hd i hi
  rw [List.getElem?_eq_getElem (by omega)] at hz
  rw [Option.some.inj hz] at ht
  obtain ⟨xs, m, _, hx, _, hlen, hf⟩ := DataW.trod_struct Tryz.underlying116 ht
  simp only [Prod.mk.injEq, DataW.agg.injEq] at hx
  match l, hll, xs, hlen with
  | [a0, a1, a2, a3], _, [y0, y1, y2, y3], _ =>
    obtain ⟨hx, _⟩ := hx
    simp only [List.map_cons, List.map_nil, List.cons.injEq, and_true] at hx
    have g0 := hf 0 _ rfl
    have g1 := hf 1 _ rfl
    have g2 := hf 2 _ rfl
    have g3 := hf 3 _ rfl
    simp only [List.getElem?_cons_zero, List.getElem?_cons_succ] at g0 g1 g2 g3
    obtain rfl := lit_str (p := y0.2) Tryz.underlying9 (g0.trans (by rw [hx.1])) rfl
    obtain rfl := lit_str (p := y1.2) (s := mdT i) Tryz.underlying9 (g1.trans (by rw [hx.2.1])) rfl
    obtain rfl := lit_str (p := y2.2) (s := stT i) Tryz.underlying9 (g2.trans (by rw [hx.2.2.1])) rfl
    obtain rfl := lit_int (p := y3.2) Tryz.underlying3 (g3.trans (by rw [hx.2.2.2]))
    exact ⟨hc 0 (by omega), hc 1 (by omega), hc 2 (by omega), hc 3 (by omega)⟩

section
variable {H : Type} {enc : TypeId × Value → H} {P : Program}
/-- bytes that came in -/
theorem open_u8 {w : World} {held : Bool} {fuel : Nat} {t e : TypeId} {v : Value} {y : DataW H × List MemPlace} (ht : P.underlying t = some (.slice e)) (he : P.underlying e = some (.int .u8)) (hc : P.cellsOf e = 1)
    (h : DataW.trod enc P w 0 (fun _ => true) held fuel t [v] = some y) :
    ∃ (q : Option Addr) (n cap : Nat) (f : Nat → Nat), v = .slice q n cap ∧ n ≤ cap ∧ cap ≤ 9223372036854775807 ∧ (∀ j, f j < 256) ∧ BL w q n f := by
  rcases open_ints ht he hc h with ⟨hv, _⟩ | ⟨a, len, cap, zs, hv, _, hl, hm, hz, hx, hcell, hwf⟩
  · simp only [List.cons.injEq, and_true] at hv
    exact ⟨none, 0, 0, fun _ => 0, hv, Nat.le_refl _, by decide, fun _ => Nat.zero_lt_succ _, fun i hi => by omega⟩
  · simp only [List.cons.injEq, and_true] at hv
    simp only [if_true] at hz
    refine ⟨some a, len, cap, fun i => (zs.getD i 0).toNat % 256, hv, hl, hm, fun _ => Nat.mod_lt _ (by decide), fun i hi => ?_⟩
    have hc2 := hcell i (by omega)
    have h0 := hcell 0 (by omega)
    obtain ⟨b, o, sp⟩ := a
    have hsp : sp = none := by simpa [Addr.add] using World.cell?_spot h0
    subst hsp
    refine ⟨b, o, rfl, ?_⟩
    have hb : 0 ≤ zs.getD i 0 ∧ zs.getD i 0 ≤ 255 := by
      have hi2 : i < zs.length := by omega
      refine bounds_u8 (hwf _ ?_)
      rw [List.getD_eq_getElem?_getD, List.getElem?_eq_getElem hi2]
      exact List.getElem_mem hi2
    have e : (((zs.getD i 0).toNat % 256 : Nat) : Int) = zs.getD i 0 := by omega
    rw [e, ← hc2, Addr.add_mid]
end
section
variable {H : Type} {enc : TypeId × Value → H} {w : World} {held : Bool}
theorem rc_list : ∀ i, i < 10 → (([1, 2, 4, 8, 16, 32, 64, 128, 27, 54] : List Int).getD i 0) = ((Aes.rc i : Nat) : Int) := by decide
theorem has_of {z : Int} (h : (Lit.int .i64 z).wf = true) : IntKind.i64.has z := by
  have := bounds_i64 h
  constructor <;> simp [IntKind.min, IntKind.max, IntKind.signed, IntKind.bits] <;> omega
set_option maxRecDepth 100000 in
/-- a pick that came in -/
theorem open_pick {r : Reach} {b : Nat} {v : Value} {d : DataW H} {pl : List MemPlace} (hv : Value.okWide Tryz.prog w r b 24 v) (h : DataW.Trod enc Tryz.prog w 0 (fun _ => true) held 24 v d pl) :
    ∃ (z : Int) (q : Option Addr) (n cap : Nat) (f : Nat → Nat), v = pickV z q n cap ∧ IntKind.i64.has z ∧ n ≤ cap ∧ cap ≤ 9223372036854775807 ∧ (∀ j, f j < 256) ∧ BL w q n f := by
  obtain ⟨cs, rfl, hn, hk⟩ := open_cells (ts := [3, 22]) (n := 2) Tryz.underlying24 (by kernel_rfl) (by kernel_rfl) hv
  obtain ⟨l⟩ := cs
  match l, hn with
  | [a0, a1], _ =>
    obtain ⟨z, rfl, hz⟩ := cell_int Tryz.underlying3 (hk 0 _ _ rfl rfl)
    obtain ⟨fuel, hf1⟩ := h
    obtain ⟨y0, y1, n0, _, _, _, h1⟩ := trod_struct2 Tryz.underlying24 hf1
    have kS : Tryz.prog.cellsOf 22 = 1 := by kernel_rfl
    have h2 : DataW.trod enc Tryz.prog w 0 (fun _ => true) held n0 22 [a1] = some y1 := by
      rw [← h1]
      show _ = DataW.trod enc Tryz.prog w 0 (fun _ => true) held n0 22 (([Value.int .i64 z, a1].drop 1).take (Tryz.prog.cellsOf 22))
      rw [kS]
      rfl
    obtain ⟨q, n, cap, f, rfl, e1, e2, e3, e4⟩ := open_u8 Tryz.underlying22 Tryz.underlying5 (by kernel_rfl) h2
    exact ⟨z, q, n, cap, f, rfl, hz, e1, e2, e3, e4⟩
set_option maxRecDepth 100000 in
/-- bytes that came in, as an argument -/
theorem open_bytes {r : Reach} {b : Nat} {v : Value} {d : DataW H} {pl : List MemPlace} (hv : Value.okWide Tryz.prog w r b 22 v) (h : DataW.Trod enc Tryz.prog w 0 (fun _ => true) held 22 v d pl) :
    ∃ (q : Option Addr) (n cap : Nat) (f : Nat → Nat), v = .slice q n cap ∧ n ≤ cap ∧ cap ≤ 9223372036854775807 ∧ (∀ j, f j < 256) ∧ BL w q n f := by
  obtain ⟨fuel, hf⟩ := h
  obtain ⟨a0, len0, cap0, rfl⟩ := okWide_slice Tryz.underlying22 hv
  exact open_u8 Tryz.underlying22 Tryz.underlying5 (by kernel_rfl) hf
end
end Go.Proofs.YtmifebcaifbmoaaGreatDoor.OpenM
end

/- OpenV -/
section
namespace Go.Proofs.YtmifebcaifbmoaaGreatDoor.OpenV
open Go.ChangeShapes Go.WideShapes Go.ChangeAt Go.RowKit Go.Lib Go.Deep Go.Proofs.YtmifebcaifbmoaaGreatDoor.Tab Go.Proofs.YtmifebcaifbmoaaGreatDoor.Byts Go.Proofs.YtmifebcaifbmoaaGreatDoor.Dig
/-- the numbers of a listed array -/
def zsOf : DataW Unit → List Int
  | .agg l => l.map fun d => match d with | .lit (.int _ z) => z | _ => 0
  | _ => []
theorem words_laid {P : Program} {W : World} {laid : List (String × DataW Unit)} {name : String} {g n : Nat} {t e : TypeId} (D : DataW Unit) (hD : D = .agg ((zsOf D).map fun z => .lit (.int .u64 z))) (hn : (zsOf D).length = n)
    (h : laidMetH P laid W) (hp : (laid.filter fun x => x.2.handleName?.isSome) = []) (hm : (name, D) ∈ laid)
    (hg : P.globalNamed name = some g) (hty : (P.globals[g]?).map (·.type) = some t) (ha : P.underlying t = some (.array n e)) (he : P.underlying e = some (.int .u64)) (hc : P.cellsOf e = 1) : WordsAt g n W := fun i hi => by
  rw [hD] at hm
  exact ⟨_, Frame.ints_of_laid h hp hm hg hty ha he hc i (by omega)⟩
end Go.Proofs.YtmifebcaifbmoaaGreatDoor.OpenV
end
