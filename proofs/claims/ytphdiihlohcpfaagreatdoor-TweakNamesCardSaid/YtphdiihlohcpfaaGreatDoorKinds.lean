/- tweak.kinds: the modes' names. -/
import Derived.Test.YtphdiihlohcpfaaGreatDoorBase
namespace Go.Proofs.YtphdiihlohcpfaaGreatDoor.Names
open Go.RowKit Go.Lib

/-- a name's bytes -/
def nm (k : Nat) : ByteArray := ⟨(#[#[101, 99, 98], #[99, 98, 99, 45, 110, 117, 108, 108], #[99, 98, 99, 45, 112, 108, 97, 105, 110], #[99, 98, 99, 45, 112, 108, 97, 105, 110, 54, 52], #[99, 98, 99, 45, 112, 108, 97, 105, 110, 54, 52, 98, 101],
  #[99, 98, 99, 45, 98, 101, 110, 98, 105], #[99, 98, 99, 45, 101, 115, 115, 105, 118, 58, 115, 104, 97, 50, 53, 54], #[99, 98, 99, 45, 101, 98, 111, 105, 118], #[99, 98, 99, 45, 101, 108, 101, 112, 104, 97, 110, 116], #[99, 98, 99, 45, 116, 99, 119],
  #[120, 116, 115, 45, 112, 108, 97, 105, 110], #[120, 116, 115, 45, 112, 108, 97, 105, 110, 54, 52], #[120, 116, 115, 45, 112, 108, 97, 105, 110, 54, 52, 98, 101], #[120, 116, 115, 45, 101, 115, 115, 105, 118, 58, 115, 104, 97, 50, 53, 54],
  #[108, 114, 119, 45, 98, 101, 110, 98, 105], #[104, 99, 116, 114, 50, 45, 112, 108, 97, 105, 110], #[104, 99, 116, 114, 50, 45, 112, 108, 97, 105, 110, 54, 52]] : Array (Array UInt8)).getD k #[]⟩

theorem digestPart_any (fn : Fn) (f1 f2 : Array Value) (w : World) : Calls Tryz.prog 16 #[.func fn f1 f2] w fun e w' => (∃ first cap, e = .returned (.func (.func 42) first cap)) ∧ Below w.heap.size w w' := by
  have hmf : ∀ (fn : Fn) (first cap : Array Value) (w : World), (Instr.makeFunc fn first cap).run Tryz.prog w = .ok (.func fn first cap) w := fun _ _ _ _ => by simp [Instr.makeFunc]
  have HB := Lib.hid ((Below.refl w.heap.size w).alloc (Nat.le_refl _) (.cells #[.func fn f1 f2] 35))
  go_enter Tryz.func16, Tryz.ntmps16
  go_wp2
  go_ret
  exact ⟨⟨_, _, rfl⟩, HB.out⟩

set_option maxRecDepth 100000 in
set_option maxHeartbeats 4000000 in
theorem kinds_any (w : World) : Calls Tryz.prog 6 #[] w fun e w' => ∃ g cs, e = .returned (.slice (some ⟨g, 0, none⟩) 17 17) ∧ w.heap.size ≤ g ∧ w'.heap[g]? = some (.cells cs 37 (0, 0)) ∧ cs.size = 119 ∧ (∀ k, k < 17 → cs[k * 7]? = some (.string (nm k)) ∧ (∃ b, cs[k * 7 + 1]? = some (.bool b)) ∧ (∃ z, cs[k * 7 + 2]? = some (.int .i64 z)) ∧ (cs[k * 7 + 3]? = some .nilFunc ∨ ∃ a b c, cs[k * 7 + 3]? = some (.func a b c)) ∧ (∃ a b c, cs[k * 7 + 4]? = some (.func a b c)) ∧ (∃ a b c, cs[k * 7 + 5]? = some (.func a b c)) ∧ ∃ b, cs[k * 7 + 6]? = some (.bool b)) ∧ Below w.heap.size w w' := by
  go_enter Tryz.func6, Tryz.ntmps6
  go_wp2_with (go_at_call 16; refine (digestPart_any _ _ _ w).mono ?_; rintro e w1 ⟨⟨f1, c1, rfl⟩, hb⟩; have HB := Lib.hid hb; clear hb)
  go_ret
  refine ⟨w1.heap.size, _, rfl, HB.out.size, heap_alloc_new w1 _, rfl, ?_, HB.out.alloc HB.out.size _⟩
  intro k hk
  match k, hk with
  | 0, _ => exact ⟨rfl, ⟨_, rfl⟩, ⟨_, rfl⟩, .inl rfl, ⟨_, _, _, rfl⟩, ⟨_, _, _, rfl⟩, ⟨_, rfl⟩⟩
  | 1, _ => exact ⟨rfl, ⟨_, rfl⟩, ⟨_, rfl⟩, .inr ⟨_, _, _, rfl⟩, ⟨_, _, _, rfl⟩, ⟨_, _, _, rfl⟩, ⟨_, rfl⟩⟩
  | 2, _ => exact ⟨rfl, ⟨_, rfl⟩, ⟨_, rfl⟩, .inr ⟨_, _, _, rfl⟩, ⟨_, _, _, rfl⟩, ⟨_, _, _, rfl⟩, ⟨_, rfl⟩⟩
  | 3, _ => exact ⟨rfl, ⟨_, rfl⟩, ⟨_, rfl⟩, .inr ⟨_, _, _, rfl⟩, ⟨_, _, _, rfl⟩, ⟨_, _, _, rfl⟩, ⟨_, rfl⟩⟩
  | 4, _ => exact ⟨rfl, ⟨_, rfl⟩, ⟨_, rfl⟩, .inr ⟨_, _, _, rfl⟩, ⟨_, _, _, rfl⟩, ⟨_, _, _, rfl⟩, ⟨_, rfl⟩⟩
  | 5, _ => exact ⟨rfl, ⟨_, rfl⟩, ⟨_, rfl⟩, .inr ⟨_, _, _, rfl⟩, ⟨_, _, _, rfl⟩, ⟨_, _, _, rfl⟩, ⟨_, rfl⟩⟩
  | 6, _ => exact ⟨rfl, ⟨_, rfl⟩, ⟨_, rfl⟩, .inr ⟨_, _, _, rfl⟩, ⟨_, _, _, rfl⟩, ⟨_, _, _, rfl⟩, ⟨_, rfl⟩⟩
  | 7, _ => exact ⟨rfl, ⟨_, rfl⟩, ⟨_, rfl⟩, .inr ⟨_, _, _, rfl⟩, ⟨_, _, _, rfl⟩, ⟨_, _, _, rfl⟩, ⟨_, rfl⟩⟩
  | 8, _ => exact ⟨rfl, ⟨_, rfl⟩, ⟨_, rfl⟩, .inr ⟨_, _, _, rfl⟩, ⟨_, _, _, rfl⟩, ⟨_, _, _, rfl⟩, ⟨_, rfl⟩⟩
  | 9, _ => exact ⟨rfl, ⟨_, rfl⟩, ⟨_, rfl⟩, .inr ⟨_, _, _, rfl⟩, ⟨_, _, _, rfl⟩, ⟨_, _, _, rfl⟩, ⟨_, rfl⟩⟩
  | 10, _ => exact ⟨rfl, ⟨_, rfl⟩, ⟨_, rfl⟩, .inr ⟨_, _, _, rfl⟩, ⟨_, _, _, rfl⟩, ⟨_, _, _, rfl⟩, ⟨_, rfl⟩⟩
  | 11, _ => exact ⟨rfl, ⟨_, rfl⟩, ⟨_, rfl⟩, .inr ⟨_, _, _, rfl⟩, ⟨_, _, _, rfl⟩, ⟨_, _, _, rfl⟩, ⟨_, rfl⟩⟩
  | 12, _ => exact ⟨rfl, ⟨_, rfl⟩, ⟨_, rfl⟩, .inr ⟨_, _, _, rfl⟩, ⟨_, _, _, rfl⟩, ⟨_, _, _, rfl⟩, ⟨_, rfl⟩⟩
  | 13, _ => exact ⟨rfl, ⟨_, rfl⟩, ⟨_, rfl⟩, .inr ⟨_, _, _, rfl⟩, ⟨_, _, _, rfl⟩, ⟨_, _, _, rfl⟩, ⟨_, rfl⟩⟩
  | 14, _ => exact ⟨rfl, ⟨_, rfl⟩, ⟨_, rfl⟩, .inr ⟨_, _, _, rfl⟩, ⟨_, _, _, rfl⟩, ⟨_, _, _, rfl⟩, ⟨_, rfl⟩⟩
  | 15, _ => exact ⟨rfl, ⟨_, rfl⟩, ⟨_, rfl⟩, .inr ⟨_, _, _, rfl⟩, ⟨_, _, _, rfl⟩, ⟨_, _, _, rfl⟩, ⟨_, rfl⟩⟩
  | 16, _ => exact ⟨rfl, ⟨_, rfl⟩, ⟨_, rfl⟩, .inr ⟨_, _, _, rfl⟩, ⟨_, _, _, rfl⟩, ⟨_, _, _, rfl⟩, ⟨_, rfl⟩⟩
  | k + 17, hk => exact absurd hk (by omega)
end Go.Proofs.YtphdiihlohcpfaaGreatDoor.Names
