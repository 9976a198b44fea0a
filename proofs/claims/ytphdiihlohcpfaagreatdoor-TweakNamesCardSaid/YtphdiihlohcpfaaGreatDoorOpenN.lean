/- The two tables of names, read off what the row lists. -/
import Derived.Test.YtphdiihlohcpfaaGreatDoorNamesLaw
import Derived.Test.YtphdiihlohcpfaaGreatDoorRows
import Derived.Lib.LaidU8T
import Derived.Deep.Slices
namespace Go.Proofs.YtphdiihlohcpfaaGreatDoor.Names
open Go.ChangeShapes Go.WideShapes Go.ChangeAt Go.RowKit Go.Lib Go.Deep

theorem sizes_data : ∃ dl, (Rows.laid_coffer_tweak_sizes : DataW Unit) = .slice dl [] ∧ dl.length = 3 ∧ ∀ k, k < 3 → ∃ z, dl[k]? = some (.agg [.lit (.string (pre k).data.toList), .lit (.int .i64 z)]) :=
  ⟨_, rfl, rfl, fun k hk => by
    match k, hk with
    | 0, _ => exact ⟨_, rfl⟩
    | 1, _ => exact ⟨_, rfl⟩
    | 2, _ => exact ⟨_, rfl⟩⟩
theorem modes_data : ∃ dl, (Rows.laid_coffer_cofferref03_modes : DataW Unit) = .slice dl [] ∧ dl.length = 17 ∧ ∀ k, k < 17 → ∃ a b z, dl[k]? = some (.agg [.lit (.string (nm k).data.toList), .lit (.string a), .lit (.string b), .lit (.int .i64 z)]) ∧ -1 ≤ z ∧ z ≤ 32 :=
  ⟨_, rfl, rfl, fun k hk => by
    match k, hk with
    | 0, _ => exact ⟨_, _, _, rfl, by decide, by decide⟩
    | 1, _ => exact ⟨_, _, _, rfl, by decide, by decide⟩
    | 2, _ => exact ⟨_, _, _, rfl, by decide, by decide⟩
    | 3, _ => exact ⟨_, _, _, rfl, by decide, by decide⟩
    | 4, _ => exact ⟨_, _, _, rfl, by decide, by decide⟩
    | 5, _ => exact ⟨_, _, _, rfl, by decide, by decide⟩
    | 6, _ => exact ⟨_, _, _, rfl, by decide, by decide⟩
    | 7, _ => exact ⟨_, _, _, rfl, by decide, by decide⟩
    | 8, _ => exact ⟨_, _, _, rfl, by decide, by decide⟩
    | 9, _ => exact ⟨_, _, _, rfl, by decide, by decide⟩
    | 10, _ => exact ⟨_, _, _, rfl, by decide, by decide⟩
    | 11, _ => exact ⟨_, _, _, rfl, by decide, by decide⟩
    | 12, _ => exact ⟨_, _, _, rfl, by decide, by decide⟩
    | 13, _ => exact ⟨_, _, _, rfl, by decide, by decide⟩
    | 14, _ => exact ⟨_, _, _, rfl, by decide, by decide⟩
    | 15, _ => exact ⟨_, _, _, rfl, by decide, by decide⟩
    | 16, _ => exact ⟨_, _, _, rfl, by decide, by decide⟩
    | k + 17, hk => exact absurd hk (by omega)⟩
section
variable {P : Program} {w : World}
/-- a listed slice -/
theorem open_listed {name : String} {t e : TypeId} {sz g : Nat} {dl : List (DataW Unit)} (hV : VarReads P w name (.slice dl [])) (hg : P.globalNamed name = some g) (hty : (P.globals[g]?).map (·.type) = some t) (ht : P.underlying t = some (.slice e)) (hc : P.cellsOf e = sz) (hz : 0 < sz) (hn : 0 < dl.length) :
    ∃ b o cap, w.cell? ⟨g, 0, none⟩ = some (.slice (some ⟨b, o, none⟩) dl.length cap) ∧ dl.length ≤ cap ∧ cap ≤ maxLen ∧
      ∀ i (hi : i < dl.length), ∃ l n p, l.length = sz ∧ DataW.trod (fun _ => ()) P w 0 (fun _ => true) false n e l = some (dl[i]'hi, p) ∧ ∀ k, k < sz → w.cell? ⟨b, o + (i * sz + k), none⟩ = l[k]? := by
  obtain ⟨g', t', cs, fuel, p, hg', ht', hvar, hd⟩ := hV
  obtain rfl := Option.some.inj (hg.symm.trans hg')
  obtain rfl := Option.some.inj (hty.symm.trans ht')
  rcases open_slice ht hd with ⟨_, hx⟩ | ⟨a, len, cap, m, n, D, Pl, hv, _, hl, hm, hmm, hx, hel⟩
  · simp at hx
  · simp only [Prod.mk.injEq, DataW.slice.injEq] at hx
    obtain ⟨⟨hx, _⟩, _⟩ := hx
    simp only [if_true] at hmm
    have hlen : dl.length = len := by rw [hx]; simp
    subst hlen
    have cell0 : w.cell? ⟨g, 0, none⟩ = some (.slice (some a) dl.length cap) := by
      rw [World.var?_cell hg hvar, ← Array.getElem?_toList, hv]
      rfl
    have each : ∀ i (hi : i < dl.length), ∃ l n p, l.length = sz ∧ DataW.trod (fun _ => ()) P w 0 (fun _ => true) false n e l = some (dl[i]'hi, p) ∧ ∀ k, k < sz → w.cell? ((a.add (i * sz)).add k) = l[k]? := fun i hi => by
      obtain ⟨cs', h1, h2⟩ := hel i (by omega)
      rw [hc] at h1
      have h3 := World.cells?_some h1
      have e1 : dl[i]'hi = D i := by
        have := congrArg (fun l => l[i]?) hx
        simp only [List.getElem?_map, List.getElem?_range hi, Option.map_some] at this
        rw [List.getElem?_eq_getElem hi] at this
        exact Option.some.inj this
      exact ⟨cs', n, Pl i, h3.2.1, by rw [e1]; exact h2, h3.2.2⟩
    obtain ⟨l0, _, _, h1, _, h3⟩ := each 0 hn
    have h4 := h3 0 hz
    rw [List.getElem?_eq_getElem (by omega), Nat.zero_mul] at h4
    obtain ⟨b, o, sp⟩ := a
    have hsp : sp = none := by simpa [Addr.add] using World.cell?_spot h4
    subst hsp
    refine ⟨b, o, cap, cell0, hl, hm, fun i hi => ?_⟩
    obtain ⟨l, n', p', h5, h6, h7⟩ := each i hi
    refine ⟨l, n', p', h5, h6, fun k hk => ?_⟩
    rw [← h7 k hk, Addr.add_mid, Addr.add_mid, Nat.add_assoc]
theorem lit_str {n : Nat} {t : TypeId} {v : Value} {b : List UInt8} {s : ByteArray} {p : List MemPlace} (hu : P.underlying t = some .string) (h : DataW.trod (fun _ : TypeId × Value => ()) P w 0 (fun _ => true) false n t [v] = some (.lit (.string b), p)) (hs : b = s.data.toList) : v = .string s := by
  obtain ⟨s', e, hx, _⟩ := DataW.trod_string hu h
  simp only [List.cons.injEq, and_true] at e
  simp only [Prod.mk.injEq, DataW.lit.injEq, Lit.string.injEq] at hx
  rw [e]
  congr 1
  have h1 : s.data.toList = s'.data.toList := hs.symm.trans hx.1
  cases s; cases s'
  simp only [ByteArray.mk.injEq]
  exact Array.toList_inj.1 h1.symm
theorem lit_int {n : Nat} {t : TypeId} {v : Value} {k : IntKind} {z : Int} {p : List MemPlace} (hu : P.underlying t = some (.int k)) (h : DataW.trod (fun _ : TypeId × Value => ()) P w 0 (fun _ => true) false n t [v] = some (.lit (.int k z), p)) : v = .int k z := by
  obtain ⟨z', e, hx, _⟩ := DataW.trod_int hu h
  simp only [List.cons.injEq, and_true] at e
  simp only [Prod.mk.injEq, DataW.lit.injEq, Lit.int.injEq, true_and] at hx
  rw [e, hx.1]
end

set_option maxRecDepth 100000 in
theorem sizes_of {w : World} (hV : VarReads Tryz.prog w "coffer/tweak.sizes" Rows.laid_coffer_tweak_sizes) : Sizes w := by
  obtain ⟨dl, e, hl, hd⟩ := sizes_data
  rw [e] at hV
  obtain ⟨b, o, cap, h0, h1, h2, h3⟩ := open_listed (t := 29) (e := 30) (sz := 2) (g := 0) hV (by kernel_rfl) (by kernel_rfl) Tryz.underlying29 (by kernel_rfl) (by decide) (by omega)
  rw [hl] at h0 h1
  refine ⟨b, o, cap, h0, h1, h2, fun i hi => ?_⟩
  obtain ⟨l, n, p, hll, ht, hc⟩ := h3 i (by omega)
  obtain ⟨z, hz⟩ := hd i hi
  rw [List.getElem?_eq_getElem (by omega)] at hz
  rw [Option.some.inj hz] at ht
  obtain ⟨xs, m, _, hx, _, hlen, hf⟩ := DataW.trod_struct Tryz.underlying30 ht
  simp only [Prod.mk.injEq, DataW.agg.injEq] at hx
  match l, hll, xs, hlen with
  | [a0, a1], _, [y0, y1], _ =>
    obtain ⟨hx, _⟩ := hx
    simp only [List.map_cons, List.map_nil, List.cons.injEq, and_true] at hx
    have g0 := hf 0 _ rfl
    have g1 := hf 1 _ rfl
    simp only [List.getElem?_cons_zero, List.getElem?_cons_succ] at g0 g1
    obtain rfl := lit_str (p := y0.2) Tryz.underlying9 (g0.trans (by rw [hx.1])) rfl
    obtain rfl := lit_int (p := y1.2) Tryz.underlying3 (g1.trans (by rw [hx.2]))
    exact ⟨hc 0 (by omega), z, hc 1 (by omega)⟩
set_option maxRecDepth 100000 in
theorem modes_of {w : World} (hV : VarReads Tryz.prog w "coffer/cofferref03.modes" Rows.laid_coffer_cofferref03_modes) : Modes w := by
  obtain ⟨dl, e, hl, hd⟩ := modes_data
  rw [e] at hV
  obtain ⟨b, o, cap, h0, h1, h2, h3⟩ := open_listed (t := 38) (e := 39) (sz := 4) (g := 1) hV (by kernel_rfl) (by kernel_rfl) Tryz.underlying38 (by kernel_rfl) (by decide) (by omega)
  rw [hl] at h0 h1
  refine ⟨b, o, cap, h0, h1, h2, fun i hi => ?_⟩
  obtain ⟨l, n, p, hll, ht, hc⟩ := h3 i (by omega)
  obtain ⟨ma, mb, z, hz, z1, z2⟩ := hd i hi
  rw [List.getElem?_eq_getElem (by omega)] at hz
  rw [Option.some.inj hz] at ht
  obtain ⟨xs, m, _, hx, _, hlen, hf⟩ := DataW.trod_struct Tryz.underlying39 ht
  simp only [Prod.mk.injEq, DataW.agg.injEq] at hx
  match l, hll, xs, hlen with
  | [a0, a1, a2, a3], _, [y0, y1, y2, y3], _ =>
    obtain ⟨hx, _⟩ := hx
    simp only [List.map_cons, List.map_nil, List.cons.injEq, and_true] at hx
    have g0 := hf 0 _ rfl
    have g1 := hf 1 _ rfl
    have g2 := hf 2 _ rfl
    have g3 := hf 3 _ rfl
    simp only [List.getElem?_cons_zero, List.getElem?_cons_succ] at g0 g1 g2 g3
    obtain rfl := lit_str (p := y0.2) Tryz.underlying9 (g0.trans (by rw [hx.1])) rfl
    obtain rfl := lit_str (p := y1.2) (s := ⟨ma.toArray⟩) Tryz.underlying9 (g1.trans (by rw [hx.2.1])) (by simp)
    obtain rfl := lit_str (p := y2.2) (s := ⟨mb.toArray⟩) Tryz.underlying9 (g2.trans (by rw [hx.2.2.1])) (by simp)
    obtain rfl := lit_int (p := y3.2) Tryz.underlying3 (g3.trans (by rw [hx.2.2.2]))
    exact ⟨hc 0 (by omega), _, _, z, hc 1 (by omega), hc 2 (by omega), hc 3 (by omega), z1, z2⟩
end Go.Proofs.YtphdiihlohcpfaaGreatDoor.Names
