/- utf8.ValidString at every text, by the kit's contract. -/
import Derived.Test.YtfchbodbkdkcfaaDoorBase
import Derived.Ground.NamesProg
import Derived.Shelf.Lay
import Derived.Shelf.Unicode.ValidAny
namespace Go.Proofs
open Go.RowKit Go.Shelf Go.Lib

shelf_lay Lays.n196 Nm 196 at Tryd as Tryd.laysValid

namespace YtfchbodbkdkcfaaDoor.TokV
/-- the two tables of unicode/utf8 -/
def Tabs (w : World) : Prop := Lib.Utf8Tabs (Tryd.laysValid_ren.g 3) (Tryd.laysValid_ren.g 4) w
theorem tabs_below {w w' : World} (h : Tabs w) (hb : Below w.heap.size w w') : Tabs w' := by
  have lt : ∀ {b o : Nat} {v : Value}, w.cell? ⟨b, o, none⟩ = some v → w'.cell? ⟨b, o, none⟩ = some v := fun hc => by
    have := Frame.block_lt hc
    rw [← hc]
    exact hb.cell this
  exact ⟨fun c hc => lt (h.1 c hc), fun i hi => ⟨lt (h.2 i hi).1, lt (h.2 i hi).2⟩⟩
theorem valid_any (s : ByteArray) (w : World) (hs : s.size ≤ 9223372036854775807) (hT : Tabs w) :
    Calls Tryd.prog 50 #[.string s] w fun e w' => e = .returned (.bool (Lib.validD s.data.toList)) ∧ Below w.heap.size w w' := Any.utf8_ValidString Tryd.laysValid s w hs hT
end YtfchbodbkdkcfaaDoor.TokV
end Go.Proofs
