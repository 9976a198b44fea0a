/- utf8.ValidString at every text, by the kit's contract. -/
import Derived.Test.YtojnfhmmglbmkaaDoorBase
import Derived.Ground.NamesProg
import Derived.Shelf.Unicode.ValidAny
namespace Go.Proofs
open Go.RowKit Go.Shelf Go.Lib

def Tryd.laysValid_ren : Go.Shelf.Ren := ⟨fun | 196 => 9 | 259 => 15 | n => n, fun | 9 => 9 | 4 => 4 | 3 => 3 | 5 => 5 | 12 => 12 | 119 => 33 | 0 => 0 | 46 => 37 | 139 => 36 | 138 => 35 | 53 => 40 | n => n, fun | 3 => 0 | 4 => 1 | n => n⟩
theorem Tryd.laysValid : Go.Proofs.Lays.n196 Tryd.prog Tryd.laysValid_ren := {
  mixed := by kernel_rfl
  f196 := Tryd.func9.trans (congrArg some (by kernel_rfl))
  f259 := Tryd.func15.trans (congrArg some (by kernel_rfl))
  t0 := Tryd.underlying0
  a0 := Tryd.isAgg0
  z0 := Tryd.sizeOf0
  v0 := Tryd.zeroValue0
  t3 := Tryd.underlying3
  a3 := Tryd.isAgg3
  z3 := Tryd.sizeOf3
  v3 := Tryd.zeroValue3
  t4 := Tryd.underlying4
  a4 := Tryd.isAgg4
  z4 := Tryd.sizeOf4
  v4 := Tryd.zeroValue4
  t5 := Tryd.underlying5
  a5 := Tryd.isAgg5
  z5 := Tryd.sizeOf5
  v5 := Tryd.zeroValue5
  t9 := Tryd.underlying9
  a9 := Tryd.isAgg9
  z9 := Tryd.sizeOf9
  v9 := Tryd.zeroValue9
  t12 := Tryd.underlying12
  a12 := Tryd.isAgg12
  z12 := Tryd.sizeOf12
  v12 := Tryd.zeroValue12
  t46 := Tryd.underlying37
  a46 := Tryd.isAgg37
  z46 := Tryd.sizeOf37
  v46 := Tryd.zeroValue37
  t53 := Tryd.underlying40
  a53 := Tryd.isAgg40
  z53 := Tryd.sizeOf40
  v53 := Tryd.zeroValue40
  t119 := Tryd.underlying33
  a119 := Tryd.isAgg33
  z119 := Tryd.sizeOf33
  t138 := Tryd.underlying35
  a138 := Tryd.isAgg35
  z138 := Tryd.sizeOf35
  v138 := Tryd.zeroValue35
  t139 := Tryd.underlying36
  a139 := Tryd.isAgg36
  z139 := Tryd.sizeOf36
  v139 := Tryd.zeroValue36
  g3 := by kernel_rfl
  g4 := by kernel_rfl }

namespace YtojnfhmmglbmkaaDoor.TokV
/-- the two tables of unicode/utf8 -/
def Tabs (w : World) : Prop := Lib.Utf8Tabs (Tryd.laysValid_ren.g 3) (Tryd.laysValid_ren.g 4) w
theorem tabs_below {w w' : World} (h : Tabs w) (hb : Below w.heap.size w w') : Tabs w' := by
  have lt : ∀ {b o : Nat} {v : Value}, w.cell? ⟨b, o, none⟩ = some v → w'.cell? ⟨b, o, none⟩ = some v := fun hc => by
    have := Frame.block_lt hc
    rw [← hc]
    exact hb.cell this
  exact ⟨fun c hc => lt (h.1 c hc), fun i hi => ⟨lt (h.2 i hi).1, lt (h.2 i hi).2⟩⟩
theorem valid_any (s : ByteArray) (w : World) (hs : s.size ≤ 9223372036854775807) (hT : Tabs w) :
    Calls Tryd.prog 9 #[.string s] w fun e w' => e = .returned (.bool (Lib.validD s.data.toList)) ∧ Below w.heap.size w w' := Any.utf8_ValidString Tryd.laysValid s w hs hT
end YtojnfhmmglbmkaaDoor.TokV
end Go.Proofs
