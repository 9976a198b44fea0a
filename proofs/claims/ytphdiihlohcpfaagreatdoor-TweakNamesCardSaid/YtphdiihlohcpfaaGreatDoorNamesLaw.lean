/- TweakNames answers true. -/
import Derived.Test.YtphdiihlohcpfaaGreatDoorTable
namespace Go.Proofs.YtphdiihlohcpfaaGreatDoor.Names
open Go.RowKit Go.Lib

theorem Modes.below {w w' : World} (h : Modes w) (hb : Below w.heap.size w w') : Modes w' := by
  have lt : ∀ {b o : Nat} {v : Value}, w.cell? ⟨b, o, none⟩ = some v → w'.cell? ⟨b, o, none⟩ = some v := fun hc => by
    rw [← hc]
    exact hb.cell (Frame.block_lt hc)
  obtain ⟨g, off, cap, h1, h2, h3, h4⟩ := h
  refine ⟨g, off, cap, lt h1, h2, h3, fun i hi => ?_⟩
  obtain ⟨h5, md, st, mo, h6, h7, h8, h9⟩ := h4 i hi
  exact ⟨lt h5, md, st, mo, lt h6, lt h7, lt h8, h9⟩
theorem names_get (n t : Nat) (h : t < n) : (names n)[t]? = some (.string (name t)) := by simp [names, h]

set_option maxRecDepth 100000 in
set_option maxHeartbeats 4000000 in
theorem law_any (w : World) (hS : Sizes w) (hM : Modes w) : Calls Tryz.prog 3 #[] w fun e w' => e = .returned (.bool true) ∧ Below w.heap.size w w' := by
  have HM := Lib.hid hM
  have HS := Lib.hid (specs_any w hS)
  clear hS hM
  go_enter Tryz.func3, Tryz.ntmps3
  go_wp2_with fail
  refine HS.out.mono ?_
  rintro e w1 ⟨v1, rfl, ho1, hb1⟩
  have HO1 := Lib.hid ho1
  have HB1 := Lib.hid hb1
  clear ho1 hb1 HS
  go_wp2_with fail
  refine (rows_any w1 (HM.out.below HB1.out)).mono ?_
  rintro e w2 ⟨v2, xs, rfl, ho2, hr2, hb2⟩
  have HB2 := Lib.hid (HB1.out.trans (hb2.mono HB1.out.size))
  have HO3 : Hid (w2.ownsRow w.heap.size 9 1 v1 52 (names 52)) := Lib.hid (by
    refine ⟨HO1.out.1, ?_⟩
    have hl := HO1.out.lt
    rcases HO1.out.2 with h' | ⟨g, cap, cur, rfl, q1, q2, q3⟩
    · exact .inl h'
    · exact .inr ⟨g, cap, cur, rfl, q1, by rw [hb2.block g (hl g rfl).2]; exact q2, q3⟩)
  have HO2 := Lib.hid ho2
  have HR2 := Lib.hid hr2
  clear ho2 hr2 hb2 HO1 HB1
  rcases HO3.out.2 with ⟨_, h⟩ | ⟨g1, c1, cu1, rfl, _, hg1, n1, m1, _⟩
  · omega
  rcases HO2.out.2 with ⟨_, h⟩ | ⟨g2, c2, cu2, rfl, _, hg2, n2, m2, _⟩
  · omega
  have m1' : c1 ≤ 9223372036854775807 := m1
  have m2' : c2 ≤ 9223372036854775807 := m2
  have L1 := (Array.getElem?_eq_some_iff.1 hg1).1
  have L2 := (Array.getElem?_eq_some_iff.1 hg2).1
  have A1 : Hid (∀ t, t < 52 → w2.cell? ⟨g1, t, none⟩ = some (.string (name t))) := Lib.hid (fun t ht => (HO3.out.cellAt t (by omega)).trans (names_get 52 t ht))
  have A2 : Hid (∀ t, t < 52 → w2.cell? ⟨g2, t * 5, none⟩ = some (.string (name t))) := Lib.hid (fun t ht => (HO2.out.cellAt (t * 5) (by omega)).trans (by rw [Nat.mul_comm]; exact HR2.out t ht))
  clear hg1 hg2 HO2 HO3 HR2
  go_wp2
  go_loopw [3] (fun i wr => ∃ k : Nat, k ≤ 52 ∧ i = .int .i64 k ∧ Below w2.heap.size w2 wr) (fun i _ => 52 - (intOf i).toNat)
  case atStart => exact ⟨0, by omega, rfl, Below.refl _ _⟩
  case round =>
    obtain ⟨k, hk, rfl, hb⟩ := hrel
    have HB3 := Lib.hid hb
    by_cases hlt : k < 52
    · have p1 := (hb.cell (p := ⟨g1, k, none⟩) L1).trans (A1.out k hlt)
      have p2 := (hb.cell (p := ⟨g2, k * 5, none⟩) L2).trans (A2.out k hlt)
      generalize name k = nk at p1 p2
      clear hb
      go_wp2
      go_region
      go_wp2
      go_roundw
      case rel => exact ⟨k + 1, by omega, rfl, HB3.out.drew⟩
      case measure => simp [intOf]; omega
    · clear hb
      go_wp2
      go_ret
      exact ⟨rfl, HB2.out.trans (HB3.out.mono HB2.out.size)⟩
end Go.Proofs.YtphdiihlohcpfaaGreatDoor.Names
