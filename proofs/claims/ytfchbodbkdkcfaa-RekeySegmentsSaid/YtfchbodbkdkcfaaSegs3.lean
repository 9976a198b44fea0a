/- The document's own Segments; two lists of segments compared. -/
import Derived.Test.YtfchbodbkdkcfaaSegs2
import Derived.Laws.StructEq
namespace Go.Proofs.Ytfchbodbkdkcfaa.Coll
open Go.RowKit

/-- a slice of the segments L -/
def SL (w : World) (v : Value) (L : List Sg) : Prop := (v = .slice none 0 0 ∧ L = []) ∨ ∃ g cap, v = .slice (some ⟨g, 0, none⟩) L.length cap ∧ L.length ≤ cap ∧ cap ≤ maxLen ∧ g < w.heap.size ∧ ∀ j, j < L.length * 3 → w.cell? ⟨g, j, none⟩ = (sgL L)[j]?
theorem SL.of_own {w : World} {B : Nat} {v : Value} {L : List Sg} (h : w.ownsRow B 59 3 v L.length (sgL L)) : SL w v L := by
  rcases h.2 with ⟨rfl, h0⟩ | ⟨g, cap, cur, rfl, _, hg, hn, hm, _, _⟩
  · exact .inl ⟨rfl, List.length_eq_zero_iff.1 h0⟩
  · exact .inr ⟨g, cap, rfl, hn, hm, (Array.getElem?_eq_some_iff.1 hg).1, fun j hj => h.cellAt j hj⟩
theorem SL.keep {w w' : World} {v : Value} {L : List Sg} (h : SL w v L) (hb : ∀ g, v.ownBlock = some g → w'.heap[g]? = w.heap[g]?) (hs : w.heap.size ≤ w'.heap.size) : SL w' v L := by
  rcases h with h | ⟨g, cap, rfl, a, b, c, d⟩
  · exact .inl h
  · refine .inr ⟨g, cap, rfl, a, b, by omega, fun j hj => ?_⟩
    rw [← d j hj]
    unfold World.cell?
    rw [hb g rfl]
theorem SL.below {w w' : World} {v : Value} {L : List Sg} (h : SL w v L) (hb : Below w.heap.size w w') : SL w' v L :=
  h.keep (fun g hg => by
    rcases h with ⟨rfl, _⟩ | ⟨g', cap, rfl, a, b, c, d⟩
    · cases hg
    · obtain rfl : g' = g := by simpa [Value.ownBlock] using hg
      exact hb.block _ c) hb.size
theorem sgL_get (L : List Sg) (k : Nat) (h : k < L.length) : (sgL L)[k * 3]? = some (.int .u64 (L[k]'h).1) ∧ (sgL L)[k * 3 + 1]? = some (.int .u64 (L[k]'h).2.1) ∧ (sgL L)[k * 3 + 2]? = some (.int .u64 (L[k]'h).2.2) := by
  induction L generalizing k with
  | nil => simp at h
  | cons x L ih =>
    cases k with
    | zero => simp [sgL, sgC]
    | succ k =>
      have := ih k (by simpa using h)
      have e : ∀ j, (sgL (x :: L))[(k + 1) * 3 + j]? = (sgL L)[k * 3 + j]? := fun j => by
        have : sgL (x :: L) = sgC x ++ sgL L := by simp [sgL]
        rw [this, List.getElem?_append_right (by simp [sgC]; omega)]
        congr 1
        simp [sgC]; omega
      exact ⟨by rw [show (k + 1) * 3 = (k + 1) * 3 + 0 from rfl, e 0]; simpa using this.1, by rw [e 1]; simpa using this.2.1, by rw [e 2]; simpa using this.2.2⟩

theorem num_any (x : Int) (w : World) : Calls Try.prog 11 #[.int .i64 x] w fun e w' => e = .returned (.int .i64 x) ∧ w = w' := by
  go_enter Try.func11, Try.ntmps11
  go_wp2
  go_ret
  exact ⟨rfl, rfl⟩

set_option maxRecDepth 100000 in
set_option maxHeartbeats 4000000 in
theorem sameSegs_any (v1 v2 : Value) (L : List Sg) (w : World) (h1 : SL w v1 L) (h2 : SL w v2 L) :
    Calls Try.prog 14 #[v1, v2] w fun e w' => e = .returned (.bool true) ∧ Below w.heap.size w w' := by
  rcases h1 with ⟨rfl, rfl⟩ | ⟨g1, c1, rfl, a1, b1, lt1, d1⟩
  · obtain ⟨q, hq⟩ : ∃ q c, v2 = .slice q 0 c := by
      rcases h2 with ⟨rfl, _⟩ | ⟨g2, c2, rfl, _⟩
      · exact ⟨_, _, rfl⟩
      · exact ⟨_, _, rfl⟩
    obtain ⟨c, rfl⟩ := hq
    clear h2
    go_enter Try.func14, Try.ntmps14
    go_wp2
    go_loop [5] (fun i => i = .int .i64 0) (fun _ => 0)
    case atStart => rfl
    case round =>
      obtain rfl := hrel
      go_wp2
      go_ret
      exact ⟨rfl, Below.refl _ _⟩
  · rcases h2 with ⟨rfl, rfl⟩ | ⟨g2, c2, rfl, a2, b2, lt2, d2⟩
    · clear d1
      go_enter Try.func14, Try.ntmps14
      go_wp2
      go_loop [5] (fun i => i = .int .i64 0) (fun _ => 0)
      case atStart => rfl
      case round =>
        obtain rfl := hrel
        go_wp2
        go_ret
        exact ⟨rfl, Below.refl _ _⟩
    · have D1 := Lib.hid d1
      have D2 := Lib.hid d2
      have hn : L.length ≤ 9223372036854775807 := by unfold maxLen at b1; omega
      clear d1 d2 b1 b2
      generalize hlen : L.length = n at *
      have HL := Lib.hid hlen
      clear hlen
      go_enter Try.func14, Try.ntmps14
      go_wp2
      go_loopw [5] (fun i wr => ∃ k : Nat, k ≤ n ∧ i = .int .i64 k ∧ Below w.heap.size w wr) (fun i _ => n - (intOf i).toNat)
      case atStart => exact ⟨0, by omega, rfl, Below.refl _ _⟩
      case round =>
        obtain ⟨k, hk, rfl, hb⟩ := hrel
        have HB := Lib.hid hb
        by_cases hlt : k < n
        · obtain ⟨e0, e1, e2⟩ := sgL_get L k (by rw [HL.out]; exact hlt)
          have p0 := (hb.cell (p := ⟨g1, k * 3, none⟩) lt1).trans ((D1.out (k * 3) (by omega)).trans e0)
          have p1 := (hb.cell (p := ⟨g1, k * 3 + 1, none⟩) lt1).trans ((D1.out (k * 3 + 1) (by omega)).trans e1)
          have p2 := (hb.cell (p := ⟨g1, k * 3 + 2, none⟩) lt1).trans ((D1.out (k * 3 + 2) (by omega)).trans e2)
          have q0 := (hb.cell (p := ⟨g2, k * 3, none⟩) lt2).trans ((D2.out (k * 3) (by omega)).trans e0)
          have q1 := (hb.cell (p := ⟨g2, k * 3 + 1, none⟩) lt2).trans ((D2.out (k * 3 + 1) (by omega)).trans e1)
          have q2 := (hb.cell (p := ⟨g2, k * 3 + 2, none⟩) lt2).trans ((D2.out (k * 3 + 2) (by omega)).trans e2)
          generalize (L[k]'(by rw [HL.out]; exact hlt)).1 = x0 at *
          generalize (L[k]'(by rw [HL.out]; exact hlt)).2.1 = x1 at *
          generalize (L[k]'(by rw [HL.out]; exact hlt)).2.2 = x2 at *
          clear e0 e1 e2 hb
          go_wp2
          go_region
          go_wp2
          go_roundw
          case rel => exact ⟨k + 1, by omega, rfl, HB.out.drew⟩
          case measure => simp [intOf]; omega
        · clear hb
          go_wp2
          go_ret
          exact ⟨rfl, HB.out⟩
end Go.Proofs.Ytfchbodbkdkcfaa.Coll
