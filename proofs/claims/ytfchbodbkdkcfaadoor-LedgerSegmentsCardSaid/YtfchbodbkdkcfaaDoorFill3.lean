/- ledger.filled of two segments. -/
import Derived.Test.YtfchbodbkdkcfaaDoorFill2
namespace Go.Proofs.YtfchbodbkdkcfaaDoor.Fill
open Go.RowKit Go.Lib Go.Proofs.YtfchbodbkdkcfaaDoor.Coll Go.Proofs.YtfchbodbkdkcfaaDoor.Meta

/-- a list of segments in a block of its own that is full -/
def SegV (w : World) (B : Nat) (v : Value) (L : List Sg) : Prop := (v = .slice none 0 0 ∧ L = []) ∨
  ∃ g cur, v = .slice (some ⟨g, 0, none⟩) L.length L.length ∧ B ≤ g ∧ w.heap[g]? = some (.cells cur 92 (0, 0)) ∧ L.length * 3 ≤ cur.size ∧ cur.toList.take (L.length * 3) = sgL L
theorem SegV.below {w w' : World} {B : Nat} {v : Value} {L : List Sg} (h : SegV w B v L) (hb : Below w.heap.size w w') : SegV w' B v L := by
  rcases h with h | ⟨g, cur, a, b, c, d⟩
  · exact .inl h
  · exact .inr ⟨g, cur, a, b, (hb.block _ (Array.getElem?_eq_some_iff.1 c).1).trans c, d⟩
theorem SegV.mono {w : World} {B B' : Nat} {v : Value} {L : List Sg} (h : SegV w B v L) (hb : B' ≤ B) : SegV w B' v L := by
  rcases h with h | ⟨g, cur, a, b, c, d⟩
  · exact .inl h
  · exact .inr ⟨g, cur, a, by omega, c, d⟩
theorem SegV.lv {w : World} {B : Nat} {v : Value} {L : List Sg} (h : SegV w B v L) : ∃ q c, v = .slice q L.length c ∧ LV sgC w q L := by
  rcases h with ⟨rfl, rfl⟩ | ⟨g, cur, rfl, _, c, _, e⟩
  · exact ⟨_, _, rfl, fun j v h => by simp at h⟩
  · refine ⟨_, _, rfl, fun j v h => ⟨g, 0, rfl, ?_⟩⟩
    have hj : j < L.length * 3 := by rw [← flat_len (sz := 3) (cs := sgC) (fun _ => rfl) L]; exact (List.getElem?_eq_some_iff.1 h).1
    have h' : (sgL L)[j]? = some v := h
    rw [Nat.zero_add, cell_of_row _ _ j _ _ _ c, ← h', ← e, List.getElem?_take_of_lt hj, Array.getElem?_toList]
theorem sgF_le (x y : Sg) : (sgF x y).length ≤ 2 := by
  unfold sgF
  exact List.length_filter_le _ _

set_option maxRecDepth 100000 in
set_option maxHeartbeats 4000000 in
theorem clip_any (g n cap : Nat) (w : World) (h : n ≤ cap) (hm : cap ≤ maxLen) :
    Calls Tryd.prog 81 #[.slice (some ⟨g, 0, none⟩) n cap] w fun e w' => e = .returned (.slice (some ⟨g, 0, none⟩) n n) ∧ w' = w := by
  have hm' : cap ≤ 9223372036854775807 := hm
  go_enter Tryd.func81, Tryd.ntmps81
  go_wp2
  go_ret
  exact ⟨rfl, rfl⟩

set_option maxRecDepth 100000 in
set_option maxHeartbeats 4000000 in
theorem filled_any (g c : Nat) (x y : Sg) (w : World) (h : Two w g x y) :
    Calls Tryd.prog 56 #[.slice (some ⟨g, 0, none⟩) 2 c] w fun e w' => ∃ v, e = .returned v ∧ SegV w' w.heap.size v (sgF x y) ∧ Below w.heap.size w w' := by
  have H := Lib.hid h
  clear h
  go_enter Tryd.func56, Tryd.ntmps56
  go_wp2_with fail
  refine (clone_any g c x y w H.out).mono ?_
  rintro e w1 ⟨g2, c2, rfl, h1, h2, h3, h4, hb1⟩
  have H4 := Lib.hid h4
  have HB1 := Lib.hid hb1
  clear h4 hb1
  go_wp2_with fail
  refine (delete_any g2 c2 x y w1 H4.out h2 h3).mono ?_
  rintro e w2 ⟨rfl, hg2, cur, k1, k2, k3⟩
  have HB2 := Lib.hid (show Below w.heap.size w w2 from HB1.out.trans ⟨hg2.os, hg2.tape, hg2.output, hg2.size, fun k hk => hg2.block k (Nat.lt_of_lt_of_le hk HB1.out.size) (fun e => by cases e; omega)⟩)
  have K := Lib.hid (And.intro k1 (And.intro k2 k3))
  have hle := sgF_le x y
  clear hg2 k1 k2 k3
  go_wp2_with fail
  refine (clip_any g2 (sgF x y).length c2 w2 (by omega) h3).mono ?_
  rintro e w3 ⟨rfl, rfl⟩
  go_wp2
  go_ret
  refine ⟨_, rfl, .inr ⟨g2, cur, rfl, h1, K.out.1, ?_, K.out.2.2⟩, HB2.out⟩
  have := K.out.2.1
  omega
end Go.Proofs.YtfchbodbkdkcfaaDoor.Fill
