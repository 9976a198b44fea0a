/- A guarded operation of a plain region, its guard known: it is taken as one without a guard. General. -/
import Derived.Test.YtfchbodbkdkcfaaDoorStep
namespace Go.Proofs.YtfchbodbkdkcfaaDoor.Step
open Go.RowKit Go.Lib
section
variable {P : Program} {Q : Exit → Act → World → Prop} {a : Act} {w : World} {ops : Array Oper} {rest : List Oper}
theorem p_unguard {d : Option Tmp} {op : Op} {t : TypeId} {pos : String} {af : Array Edge} {g : Option (Nat × Bool)} (hg : Region.wanted ⟨d, op, t, pos, af, g⟩ (yielded ops a.tmps) = true) (h : wpList P ops Q (⟨d, op, t, pos, af, none⟩ :: rest) a w) : wpList P ops Q (⟨d, op, t, pos, af, g⟩ :: rest) a w := by
  unfold wpList at h ⊢
  rw [if_pos (by rfl)] at h
  rw [if_pos hg]
  exact h
end
end Go.Proofs.YtfchbodbkdkcfaaDoor.Step
