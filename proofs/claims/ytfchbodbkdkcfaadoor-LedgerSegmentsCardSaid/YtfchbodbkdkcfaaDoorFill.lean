/- ledger.filled of two segments: those that have sectors. -/
import Derived.Test.YtfchbodbkdkcfaaDoorSame0
import Derived.WalkSpells
namespace Go.Proofs.YtfchbodbkdkcfaaDoor.Fill
open Go.RowKit Go.Lib Go.Proofs.YtfchbodbkdkcfaaDoor.Coll Go.Proofs.YtfchbodbkdkcfaaDoor.Meta

theorem zero_any (s c e : Int) (w : World) : Calls Tryd.prog 84 #[.agg #[.int .u64 s, .int .u64 c, .int .u64 e]] w fun r w' => r = .returned (.bool (c == 0)) ∧ Below w.heap.size w w' := by
  go_enter Tryd.func84, Tryd.ntmps84
  go_wp2
  go_ret
  exact ⟨rfl, (Below.refl _ _).alloc (Nat.le_refl _) _⟩

/-- two segments in a block -/
def Two (w : World) (g : Nat) (x y : Sg) : Prop := ∃ cur : Array Value, w.heap[g]? = some (.cells cur 92 (0, 0)) ∧ 6 ≤ cur.size ∧ cur.toList.take 6 = sgC x ++ sgC y
theorem Two.cell {w : World} {g : Nat} {x y : Sg} (h : Two w g x y) (j : Nat) (hj : j < 6) : w.cell? ⟨g, j, none⟩ = (sgC x ++ sgC y)[j]? := by
  obtain ⟨cur, h1, _, h2⟩ := h
  rw [cell_of_row _ _ j _ _ _ h1, ← h2, List.getElem?_take_of_lt hj, Array.getElem?_toList]
theorem Two.below {w w' : World} {g : Nat} {x y : Sg} (h : Two w g x y) (hb : Below w.heap.size w w') : Two w' g x y := by
  obtain ⟨cur, h1, h2⟩ := h
  exact ⟨cur, (hb.block _ (Array.getElem?_eq_some_iff.1 h1).1).trans h1, h2⟩
theorem Two.lt {w : World} {g : Nat} {x y : Sg} (h : Two w g x y) : g < w.heap.size := by
  obtain ⟨cur, h1, _⟩ := h
  exact (Array.getElem?_eq_some_iff.1 h1).1
def first (x y : Sg) : Int := if x.2.1 = 0 then 0 else if y.2.1 = 0 then 1 else -1

set_option maxRecDepth 100000 in
set_option maxHeartbeats 4000000 in
theorem index_any (g cap : Nat) (x y : Sg) (w : World) (h : Two w g x y) :
    Calls Tryd.prog 95 #[.slice (some ⟨g, 0, none⟩) 2 cap, .func (.func 84) #[] #[]] w fun e w' => e = .returned (.int .i64 (first x y)) ∧ Below w.heap.size w w' := by
  have H := Lib.hid h
  clear h
  obtain ⟨x0, x1, x2⟩ := x
  obtain ⟨y0, y1, y2⟩ := y
  obtain ⟨r, hr⟩ : ∃ r, first (x0, x1, x2) (y0, y1, y2) = r := ⟨_, rfl⟩
  rw [hr]
  have HR := Lib.hid hr
  clear hr
  go_enter Tryd.func95, Tryd.ntmps95
  go_wp2
  go_loopw [8] (fun i wr => ∃ k : Nat, k ≤ 2 ∧ i = .int .i64 k ∧ (0 < k → x1 ≠ 0) ∧ (1 < k → y1 ≠ 0) ∧ Below w.heap.size w wr) (fun i _ => 2 - (intOf i).toNat)
  case atStart => exact ⟨0, by omega, rfl, by omega, by omega, Below.refl _ _⟩
  case round =>
    obtain ⟨k, hk, rfl, hx, hy, hb⟩ := hrel
    have HB := Lib.hid hb
    match k, hk, hx, hy with
    | 0, hk, hx, hy =>
      have c0 := (H.out.below hb).cell 0 (by omega)
      have c1 := (H.out.below hb).cell 1 (by omega)
      have c2 := (H.out.below hb).cell 2 (by omega)
      simp only [sgC, List.cons_append, List.nil_append, List.getElem?_cons_succ, List.getElem?_cons_zero] at c0 c1 c2
      clear hb
      go_wp2_with fail
      refine (zero_any _ _ _ _).mono ?_
      rintro e w1 ⟨rfl, hb1⟩
      have HB1 := Lib.hid (HB.out.trans (hb1.mono HB.out.size))
      clear hb1
      by_cases h0 : x1 = 0
      · have hv : (x1 == 0) = true := by simp [h0]
        rw [hv]
        go_wp2
        go_ret
        exact ⟨by rw [← HR.out]; simp [first, h0], HB1.out⟩
      · have hv : (x1 == 0) = false := by simp [h0]
        rw [hv]
        go_wp2
        go_roundw
        case rel => exact ⟨1, by omega, rfl, fun _ => h0, by omega, HB1.out⟩
        case measure => simp [intOf]
    | 1, hk, hx, hy =>
      have c0 := (H.out.below hb).cell 3 (by omega)
      have c1 := (H.out.below hb).cell 4 (by omega)
      have c2 := (H.out.below hb).cell 5 (by omega)
      simp only [sgC, List.cons_append, List.nil_append, List.getElem?_cons_succ, List.getElem?_cons_zero] at c0 c1 c2
      clear hb
      go_wp2_with fail
      refine (zero_any _ _ _ _).mono ?_
      rintro e w1 ⟨rfl, hb1⟩
      have HB1 := Lib.hid (HB.out.trans (hb1.mono HB.out.size))
      clear hb1
      have hx0 := hx (by omega)
      by_cases h0 : y1 = 0
      · have hv : (y1 == 0) = true := by simp [h0]
        rw [hv]
        go_wp2
        go_ret
        exact ⟨by rw [← HR.out]; simp [first, h0, hx0], HB1.out⟩
      · have hv : (y1 == 0) = false := by simp [h0]
        rw [hv]
        go_wp2
        go_roundw
        case rel => exact ⟨2, by omega, rfl, fun _ => hx0, fun _ => h0, HB1.out⟩
        case measure => simp [intOf]
    | 2, hk, hx, hy =>
      clear hb
      have hx0 := hx (by omega)
      have hy0 := hy (by omega)
      go_wp2
      go_ret
      exact ⟨by rw [← HR.out]; simp [first, hx0, hy0], HB.out⟩
end Go.Proofs.YtfchbodbkdkcfaaDoor.Fill
