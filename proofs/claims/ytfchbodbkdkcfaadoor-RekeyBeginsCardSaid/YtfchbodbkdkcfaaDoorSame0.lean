/- Lists of segments that hold the same are the same to SameSegments. -/
import Derived.Test.YtfchbodbkdkcfaaDoorTwinA
import Derived.Laws.StructEq
namespace Go.Proofs.YtfchbodbkdkcfaaDoor.Meta
open Go.RowKit Go.Lib Go.Proofs.YtfchbodbkdkcfaaDoor.Coll

/-- the cells of one element -/
theorem lv_cells {α : Type} {cs : α → List Value} {sz : Nat} (hs : ∀ x, (cs x).length = sz) (hpos : 0 < sz) {w : World} {q : Option Addr} {L : List α} (h : LV cs w q L) (k : Nat) (hk : k < L.length) :
    ∃ g off, q = some ⟨g, off, none⟩ ∧ ∀ j v, (cs (L[k]'hk))[j]? = some v → w.cell? ⟨g, off + k * sz + j, none⟩ = some v := by
  have e : ∀ j v, (cs (L[k]'hk))[j]? = some v → (L.flatMap cs)[k * sz + j]? = some v := fun j v hv => by
    have hj : j < sz := by rw [← hs (L[k]'hk)]; exact (List.getElem?_eq_some_iff.1 hv).1
    rw [flat_get hs L k j hk hj]; exact hv
  have h0 : (cs (L[k]'hk))[0]? = some ((cs (L[k]'hk))[0]'(by rw [hs]; exact hpos)) := List.getElem?_eq_getElem _
  obtain ⟨g, off, hq, _⟩ := h _ _ (e 0 _ h0)
  refine ⟨g, off, hq, fun j v hv => ?_⟩
  obtain ⟨g', off', hq', hc⟩ := h _ _ (e j v hv)
  rw [hq] at hq'
  cases hq'
  rw [Nat.add_assoc]
  exact hc
theorem LV.of_own {α : Type} {cs : α → List Value} {w : World} {lo size n : Nat} {e : TypeId} {q : Option Addr} {cap : Nat} {L : List α} {ms : List Value} (h : w.ownsRow lo e size (.slice q n cap) n (L.flatMap cs ++ ms)) : LV cs w q L := fun j v hj => by
  rcases h.2 with ⟨h1, h0⟩ | ⟨g, c, cur, h1, _⟩
  · have := h.1
    have hl := (List.getElem?_eq_some_iff.1 hj).1
    rw [h0, List.length_append] at this
    omega
  · simp only [Value.slice.injEq] at h1
    obtain ⟨rfl, _, rfl⟩ := h1
    refine ⟨g, 0, rfl, ?_⟩
    have hl := (List.getElem?_eq_some_iff.1 hj).1
    have hj2 : j < n * size := by
      have := h.1
      rw [List.length_append] at this
      omega
    rw [Nat.zero_add, h.cellAt j hj2, List.getElem?_append_left hl]
    exact hj
theorem Marked.lv {α : Type} {cs : α → List Value} {lo : Nat} {w : World} {e : TypeId} {size : Nat} {q : Option Addr} {cap n k : Nat} {L : List α} {ms : List Value} (h : Marked lo w e size q cap n k (L.flatMap cs) ms) : LV cs w q L := LV.of_own h.own

set_option maxRecDepth 100000 in
set_option maxHeartbeats 4000000 in
theorem sameSegs09 (q1 q2 : Option Addr) (c1 c2 : Nat) (L : List Sg) (w : World) (h1 : LV sgC w q1 L) (h2 : LV sgC w q2 L) (hn : L.length ≤ 9223372036854775807) :
    Calls Tryd.prog 27 #[.slice q1 L.length c1, .slice q2 L.length c2] w fun e w' => e = .returned (.bool true) ∧ Below w.heap.size w w' := by
  have D1 := Lib.hid h1
  have D2 := Lib.hid h2
  clear h1 h2
  generalize hlen : L.length = n at *
  have HL := Lib.hid hlen
  clear hlen
  go_enter Tryd.func27, Tryd.ntmps27
  go_wp2
  go_loopw [5] (fun i wr => ∃ k : Nat, k ≤ n ∧ i = .int .i64 k ∧ Below w.heap.size w wr) (fun i _ => n - (intOf i).toNat)
  case atStart => exact ⟨0, by omega, rfl, Below.refl _ _⟩
  case round =>
    obtain ⟨k, hk, rfl, hb⟩ := hrel
    have HB := Lib.hid hb
    by_cases hlt : k < n
    · obtain ⟨g1, o1, rfl, E1⟩ := lv_cells (sz := 3) (fun _ => rfl) (by decide) (D1.out.below hb) k (by rw [HL.out]; exact hlt)
      obtain ⟨g2, o2, rfl, E2⟩ := lv_cells (sz := 3) (fun _ => rfl) (by decide) (D2.out.below hb) k (by rw [HL.out]; exact hlt)
      have p0 := E1 0 _ rfl
      have p1 := E1 1 _ rfl
      have p2 := E1 2 _ rfl
      have q0 := E2 0 _ rfl
      have q1 := E2 1 _ rfl
      have q2 := E2 2 _ rfl
      clear E1 E2
      generalize (L[k]'(by rw [HL.out]; exact hlt)).1 = x0 at *
      generalize (L[k]'(by rw [HL.out]; exact hlt)).2.1 = x1 at *
      generalize (L[k]'(by rw [HL.out]; exact hlt)).2.2 = x2 at *
      clear hb
      rw [Nat.add_zero] at p0 q0
      go_wp2
      go_region
      go_wp2
      go_roundw
      case rel => exact ⟨k + 1, by omega, rfl, HB.out.drew⟩
      case measure => simp [intOf]; omega
    · clear hb
      go_wp2
      go_ret
      exact ⟨rfl, HB.out⟩
set_option maxRecDepth 100000 in
set_option maxHeartbeats 4000000 in
theorem sameSegs13 (q1 q2 : Option Addr) (c1 c2 : Nat) (L : List Sg) (w : World) (h1 : LV sgC w q1 L) (h2 : LV sgC w q2 L) (hn : L.length ≤ 9223372036854775807) :
    Calls Tryd.prog 72 #[.slice q1 L.length c1, .slice q2 L.length c2] w fun e w' => e = .returned (.bool true) ∧ Below w.heap.size w w' := by
  have D1 := Lib.hid h1
  have D2 := Lib.hid h2
  clear h1 h2
  generalize hlen : L.length = n at *
  have HL := Lib.hid hlen
  clear hlen
  go_enter Tryd.func72, Tryd.ntmps72
  go_wp2
  go_loopw [5] (fun i wr => ∃ k : Nat, k ≤ n ∧ i = .int .i64 k ∧ Below w.heap.size w wr) (fun i _ => n - (intOf i).toNat)
  case atStart => exact ⟨0, by omega, rfl, Below.refl _ _⟩
  case round =>
    obtain ⟨k, hk, rfl, hb⟩ := hrel
    have HB := Lib.hid hb
    by_cases hlt : k < n
    · obtain ⟨g1, o1, rfl, E1⟩ := lv_cells (sz := 3) (fun _ => rfl) (by decide) (D1.out.below hb) k (by rw [HL.out]; exact hlt)
      obtain ⟨g2, o2, rfl, E2⟩ := lv_cells (sz := 3) (fun _ => rfl) (by decide) (D2.out.below hb) k (by rw [HL.out]; exact hlt)
      have p0 := E1 0 _ rfl
      have p1 := E1 1 _ rfl
      have p2 := E1 2 _ rfl
      have q0 := E2 0 _ rfl
      have q1 := E2 1 _ rfl
      have q2 := E2 2 _ rfl
      clear E1 E2
      generalize (L[k]'(by rw [HL.out]; exact hlt)).1 = x0 at *
      generalize (L[k]'(by rw [HL.out]; exact hlt)).2.1 = x1 at *
      generalize (L[k]'(by rw [HL.out]; exact hlt)).2.2 = x2 at *
      clear hb
      rw [Nat.add_zero] at p0 q0
      go_wp2
      go_region
      go_wp2
      go_roundw
      case rel => exact ⟨k + 1, by omega, rfl, HB.out.drew⟩
      case measure => simp [intOf]; omega
    · clear hb
      go_wp2
      go_ret
      exact ⟨rfl, HB.out⟩
end Go.Proofs.YtfchbodbkdkcfaaDoor.Meta
