/- A rotation that came in. -/
import Derived.Test.YtfchbodbkdkcfaaDoorCollect2
import Derived.WideShapes
namespace Go.Proofs.YtfchbodbkdkcfaaDoor.Coll
open Go.RowKit Go.WideShapes
section
variable {P : Program} {w : World} {r : Reach} {b : Nat} {t : TypeId} {v : Value}
theorem cell_bool (hu : P.underlying t = some .bool) (h : Cell.okWide P w r b t v) : ∃ x, v = .bool x := by
  unfold Cell.okWide at h
  rw [hu] at h
  cases v <;> simp_all [Cell.ok]
theorem cell_int {k : IntKind} (hu : P.underlying t = some (.int k)) (h : Cell.okWide P w r b t v) : ∃ z, v = .int k z ∧ k.has z := by
  unfold Cell.okWide at h
  rw [hu] at h
  cases v <;> simp_all [Cell.ok]
theorem cell_str (hu : P.underlying t = some .string) (h : Cell.okWide P w r b t v) : ∃ s : ByteArray, v = .string s ∧ (s.size : Int) ≤ IntKind.i64.max := by
  unfold Cell.okWide at h
  rw [hu] at h
  cases v <;> simp_all [Cell.ok]
theorem open_cells {fs : Array Field} {ts : List TypeId} {n : Nat} (hs : P.underlying t = some (.struct fs)) (hc : P.cellTypes P.depth t = some ts) (hsz : P.cellsOf t = n) (h : Value.okWide P w r b t v) :
    ∃ cs : Array Value, v = .agg cs ∧ cs.size = n ∧ ∀ (i : Nat) (u : TypeId) (x : Value), ts[i]? = some u → cs[i]? = some x → Cell.okWide P w r b u x := by
  simp only [Value.okWide, hs] at h
  obtain ⟨cs, rfl, h1, ts', h2, _, h3⟩ := h
  obtain rfl : ts = ts' := Option.some.inj (hc.symm.trans h2)
  refine ⟨cs, rfl, h1.trans hsz, fun i u x hu hx => ?_⟩
  obtain ⟨u', hu', hk⟩ := h3 i x hx
  have hi : i < ts.length := (List.getElem?_eq_some_iff.1 hu).1
  rw [Nat.mod_eq_of_lt hi, hu] at hu'
  cases hu'
  exact hk
end
theorem array12 {cs : Array Value} (h : cs.size = 12) : ∃ a b c d e f g i j k l m, cs = #[a, b, c, d, e, f, g, i, j, k, l, m] := by
  obtain ⟨l⟩ := cs
  match l, h with
  | [a, b, c, d, e, f, g, i, j, k, l, m], _ => exact ⟨a, b, c, d, e, f, g, i, j, k, l, m, rfl⟩
theorem has_u64 {z : Int} (h : IntKind.u64.has z) : 0 ≤ z ∧ z < 18446744073709551616 := by
  simp [IntKind.has, IntKind.min, IntKind.max, IntKind.signed, IntKind.bits] at h
  omega
set_option maxRecDepth 100000 in
theorem open_rot {w : World} {r : Reach} {b : Nat} {v : Value} (h : Value.okWide Tryd.prog w r b 53 v) : ∃ r : Rot, v = rotV r ∧ 0 ≤ r.done ∧ r.done < 18446744073709551616 := by
  obtain ⟨cs, rfl, hsz, hk⟩ := open_cells (ts := [4, 22, 22, 4, 3, 22, 22, 2, 2, 4, 22, 9]) (n := 12) Tryd.underlying53 (by kernel_rfl) (by kernel_rfl) h
  obtain ⟨c0, c1, c2, c3, c4, c5, c6, c7, c8, c9, c10, c11, rfl⟩ := array12 hsz
  obtain ⟨on, rfl⟩ := cell_bool Tryd.underlying4 (hk 0 _ _ rfl rfl)
  obtain ⟨fr, rfl, _⟩ := cell_int Tryd.underlying22 (hk 1 _ _ rfl rfl)
  obtain ⟨tn, rfl, _⟩ := cell_int Tryd.underlying22 (hk 2 _ _ rfl rfl)
  obtain ⟨back, rfl⟩ := cell_bool Tryd.underlying4 (hk 3 _ _ rfl rfl)
  obtain ⟨mode, rfl, _⟩ := cell_int Tryd.underlying3 (hk 4 _ _ rfl rfl)
  obtain ⟨hot, rfl, _⟩ := cell_int Tryd.underlying22 (hk 5 _ _ rfl rfl)
  obtain ⟨done, rfl, hd⟩ := cell_int Tryd.underlying22 (hk 6 _ _ rfl rfl)
  obtain ⟨off, rfl, _⟩ := cell_int Tryd.underlying2 (hk 7 _ _ rfl rfl)
  obtain ⟨size, rfl, _⟩ := cell_int Tryd.underlying2 (hk 8 _ _ rfl rfl)
  obtain ⟨active, rfl⟩ := cell_bool Tryd.underlying4 (hk 9 _ _ rfl rfl)
  obtain ⟨count, rfl, _⟩ := cell_int Tryd.underlying22 (hk 10 _ _ rfl rfl)
  obtain ⟨sum, rfl, _⟩ := cell_str Tryd.underlying9 (hk 11 _ _ rfl rfl)
  exact ⟨⟨on, fr, tn, back, mode, hot, done, off, size, active, count, sum⟩, rfl, has_u64 hd⟩
end Go.Proofs.YtfchbodbkdkcfaaDoor.Coll
