/- tweak.kinds: the modes, in full. -/
import Derived.Test.YtcgjhjijfhgclaaGreatDoorMTab0
namespace Go.Proofs.YtcgjhjijfhgclaaGreatDoor.Tab
open Go.RowKit Go.Lib

theorem digestPart_any (fn : Fn) (f1 f2 : Array Value) (w : World) : Calls Tryz.prog 53 #[.func fn f1 f2] w fun e w' => e = .returned (.func (.func 83) #[] #[.pointer (some ⟨w.heap.size, 0, none⟩)]) ∧ w'.heap[w.heap.size]? = some (.cells #[.func fn f1 f2] 66 (0, 0)) ∧ Below w.heap.size w w' := by
  have hmf : ∀ (fn : Fn) (first cap : Array Value) (w : World), (Instr.makeFunc fn first cap).run Tryz.prog w = .ok (.func fn first cap) w := fun _ _ _ _ => by simp [Instr.makeFunc]
  have HB := Lib.hid ((Below.refl w.heap.size w).alloc (Nat.le_refl _) (.cells #[.func fn f1 f2] 66))
  have HN := Lib.hid (heap_alloc_new w (.cells #[.func fn f1 f2] 66))
  go_enter Tryz.func53, Tryz.ntmps53
  go_wp2
  go_ret
  exact ⟨rfl, HN.out, HB.out⟩

/-- a function's value -/
def fv (n : Nat) : Value := .func (.func n) #[] #[]
/-- mode k of the program, its seven parts; d: where digestPart keeps its first -/
def kindL (d k : Nat) : List Value :=
  ([[.string (nm 0), .bool false, .int .i64 0, .nilFunc, fv 44, fv 45, .bool false],
    [.string (nm 1), .bool false, .int .i64 0, fv 46, fv 47, fv 45, .bool false],
    [.string (nm 2), .bool false, .int .i64 0, fv 48, fv 47, fv 45, .bool false],
    [.string (nm 3), .bool false, .int .i64 0, fv 49, fv 47, fv 45, .bool false],
    [.string (nm 4), .bool false, .int .i64 0, fv 50, fv 47, fv 45, .bool false],
    [.string (nm 5), .bool false, .int .i64 0, fv 51, fv 47, fv 45, .bool false],
    [.string (nm 6), .bool false, .int .i64 0, fv 52, fv 47, .func (.func 83) #[] #[.pointer (some ⟨d, 0, none⟩)], .bool false],
    [.string (nm 7), .bool false, .int .i64 0, fv 54, fv 47, fv 45, .bool false],
    [.string (nm 8), .bool true, .int .i64 0, fv 54, fv 55, fv 56, .bool false],
    [.string (nm 9), .bool false, .int .i64 32, fv 57, fv 58, fv 59, .bool false],
    [.string (nm 10), .bool true, .int .i64 0, fv 48, fv 60, fv 56, .bool true],
    [.string (nm 11), .bool true, .int .i64 0, fv 49, fv 60, fv 56, .bool true],
    [.string (nm 12), .bool true, .int .i64 0, fv 50, fv 60, fv 56, .bool true],
    [.string (nm 13), .bool true, .int .i64 0, fv 61, fv 60, fv 62, .bool true],
    [.string (nm 14), .bool false, .int .i64 16, fv 51, fv 63, fv 64, .bool false],
    [.string (nm 15), .bool false, .int .i64 0, fv 48, fv 65, fv 45, .bool true],
    [.string (nm 16), .bool false, .int .i64 0, fv 49, fv 65, fv 45, .bool true]] : List (List Value)).getD k []
/-- the list of the modes, in block g -/
structure KindsAt (g d : Nat) (w : World) : Prop where
  c : ∀ k, k < 17 → ∀ c v, (kindL d k)[c]? = some v → w.cell? ⟨g, k * 7 + c, none⟩ = some v
  d : w.heap[d]? = some (.cells #[fv 45] 66 (0, 0))
theorem KindsAt.below {g d : Nat} {w w' : World} (h : KindsAt g d w) (hb : Below w.heap.size w w') : KindsAt g d w' :=
  ⟨fun k hk c v hv => cell_below hb (h.c k hk c v hv), (hb.block d (Array.getElem?_eq_some_iff.1 h.d).1).trans h.d⟩

set_option maxRecDepth 100000 in
set_option maxHeartbeats 4000000 in
theorem kinds_any (w : World) : Calls Tryz.prog 32 #[] w fun e w' => ∃ g d, e = .returned (.slice (some ⟨g, 0, none⟩) 17 17) ∧ w.heap.size ≤ g ∧ KindsAt g d w' ∧ Below w.heap.size w w' := by
  go_enter Tryz.func32, Tryz.ntmps32
  go_wp2_with (go_at_call 53; refine (digestPart_any _ _ _ w).mono ?_; rintro e w1 ⟨rfl, hd, hb⟩; have HB := Lib.hid hb; have HD := Lib.hid hd; clear hb hd)
  go_ret
  refine ⟨w1.heap.size, w.heap.size, rfl, HB.out.size, ⟨fun k hk c v hv => ?_, (heap_alloc_old w1 _ (Array.getElem?_eq_some_iff.1 HD.out).1).trans HD.out⟩, HB.out.alloc HB.out.size _⟩
  rw [cell_of_row _ _ _ _ _ _ (heap_alloc_new w1 _), ← hv]
  have hc : c < 7 := by
    rcases Nat.lt_or_ge c 7 with h | h
    · exact h
    · have : (kindL w.heap.size k).length = 7 := by
        match k, hk with
        | 0, _ | 1, _ | 2, _ | 3, _ | 4, _ | 5, _ | 6, _ | 7, _ | 8, _ | 9, _ | 10, _ | 11, _ | 12, _ | 13, _ | 14, _ | 15, _ | 16, _ => rfl
        | k + 17, hk => exact absurd hk (by omega)
      rw [List.getElem?_eq_none (by omega)] at hv
      cases hv
  clear hv
  match k, hk with
  | 0, _ | 1, _ | 2, _ | 3, _ | 4, _ | 5, _ | 6, _ | 7, _ | 8, _ | 9, _ | 10, _ | 11, _ | 12, _ | 13, _ | 14, _ | 15, _ | 16, _ =>
    match c, hc with
    | 0, _ | 1, _ | 2, _ | 3, _ | 4, _ | 5, _ | 6, _ => rfl
    | c + 7, hc => exact absurd hc (by omega)
  | k + 17, hk => exact absurd hk (by omega)
end Go.Proofs.YtcgjhjijfhgclaaGreatDoor.Tab
