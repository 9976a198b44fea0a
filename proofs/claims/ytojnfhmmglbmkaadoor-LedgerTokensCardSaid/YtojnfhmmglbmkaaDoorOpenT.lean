/- Arguments opened: a list of ints inside a struct; how long it may be. General lemmas. -/
import Derived.Test.YtojnfhmmglbmkaaDoorTokA
import Derived.SizedLaws
import Derived.ChangeSlices
import Derived.Lib.SmallJoins
namespace Go.Proofs.YtojnfhmmglbmkaaDoor.OpenT
open Go.ChangeShapes Go.WideShapes Go.ChangeAt Go.RowKit Go.Lib
section
variable {H : Type} {enc : TypeId × Value → H} {P : Program}
/-- the parts of a struct among the arguments -/
theorem sized_agg {ts : List TypeId} {ds : List (DataW H)} (h : (DataW.weightsEach P ts ds).all (· ≤ reachBytes) = true) {j : Nat} {t : TypeId} {fs : Array Field} {parts : List (DataW H)} (ht : ts[j]? = some t) (hd : ds[j]? = some (.agg parts)) (hu : P.underlying t = some (.struct fs)) :
    (DataW.weightsEach P (fs.toList.map (·.type)) parts).all (· ≤ reachBytes) = true := by
  rw [List.all_eq_true]
  intro n hn
  exact List.all_eq_true.1 h n (DataW.weights_mem_each ht hd n (by simpa [DataW.weights, hu] using hn))
theorem open_il {w : World} {held : Bool} {fuel : Nat} {t e : TypeId} {v : Value} {y : DataW H × List MemPlace} (ht : P.underlying t = some (.slice e)) (he : P.underlying e = some (.int .i64)) (hc : P.cellsOf e = 1)
    (h : DataW.trod enc P w 0 (fun _ => true) held fuel t [v] = some y) :
    ∃ (q : Option Addr) (n cap : Nat) (f : Nat → Int), v = .slice q n cap ∧ n ≤ cap ∧ cap ≤ maxLen ∧ (q = none → n = 0 ∧ cap = 0) ∧ Tok.IL w q n f ∧ (n = 0 ∨ ∃ es sp, y.1 = .slice es sp ∧ es.length = n) := by
  rcases open_ints ht he hc h with ⟨hv, _⟩ | ⟨a, len, cap, zs, hv, _, hl, hm, hz, hx, hcell, _⟩
  · simp only [List.cons.injEq, and_true] at hv
    exact ⟨none, 0, 0, fun _ => 0, hv, Nat.le_refl _, by unfold maxLen; omega, (fun _ => ⟨rfl, rfl⟩), (fun i hi => by omega), .inl rfl⟩
  · simp only [List.cons.injEq, and_true] at hv
    simp only [if_true] at hz
    refine ⟨some a, len, cap, fun i => zs.getD i 0, hv, hl, hm, (fun e => by cases e), fun i hi => ?_, .inr ⟨_, _, by rw [hx], by simp [lits]; omega⟩⟩
    have hc2 := hcell i (by omega)
    have h0 := hcell 0 (by omega)
    obtain ⟨b, o, sp⟩ := a
    have hsp : sp = none := by simpa [Addr.add] using World.cell?_spot h0
    subst hsp
    refine ⟨b, o, rfl, ?_⟩
    rw [← hc2, Addr.add_mid]
end
end Go.Proofs.YtojnfhmmglbmkaaDoor.OpenT
