/- rising over a list of numbers; what a list of slots must be. -/
import Derived.Test.YtojnfhmmglbmkaaDoorTokA
namespace Go.Proofs.YtojnfhmmglbmkaaDoor.Tok
open Go.RowKit Go.Lib Go.Proofs.YtojnfhmmglbmkaaDoor.Blk

/-- the number ahead of place k -/
def lastOf (f : Nat → Int) (k : Nat) : Int := if k = 0 then -1 else f (k - 1)
theorem last_succ (f : Nat → Int) (k : Nat) : lastOf f (k + 1) = f k := by simp [lastOf]
def goodAt (top : Int) (f : Nat → Int) (k : Nat) : Prop := lastOf f k < f k ∧ f k ≤ top
instance (top : Int) (f : Nat → Int) (k : Nat) : Decidable (goodAt top f k) := by unfold goodAt; infer_instance
def slotsOk (top : Int) (n : Nat) (f : Nat → Int) : Bool := decide (∀ k, k < n → goodAt top f k)
theorem slots_no {top : Int} {n : Nat} {f : Nat → Int} {k : Nat} (hk : k < n) (h : ¬ goodAt top f k) : slotsOk top n f = false := decide_eq_false fun q => h (q k hk)
theorem slots_yes {top : Int} {n : Nat} {f : Nat → Int} (h : ∀ j, j < n → goodAt top f j) : slotsOk top n f = true := decide_eq_true h

set_option maxHeartbeats 1000000 in
theorem rising_any (q : Option Addr) (n cap : Nat) (f : Nat → Int) (top : Int) (w : World) (hn : n ≤ maxLen) (h1 : IL w q n f) :
    Calls Tryd.prog 10 #[.slice q n cap, .int .i64 top, .func (.func 11) #[] #[]] w fun e w' => e = .returned (.bool (slotsOk top n f)) ∧ w = w' := by
  have hn' : n ≤ 9223372036854775807 := hn
  have H1 := Lib.hid h1
  obtain ⟨B, hB⟩ : ∃ B, slotsOk top n f = B := ⟨_, rfl⟩
  rw [hB]
  have HB := Lib.hid hB
  clear hB
  clear h1
  go_enter Tryd.func10, Tryd.ntmps10
  go_wp2
  go_loopw [13, 7] (fun i l wr => ∃ k : Nat, k ≤ n ∧ i = .int .i64 k ∧ l = .int .i64 (lastOf f k) ∧ (∀ j, j < k → goodAt top f j) ∧ w = wr) (fun i _ _ => n - (intOf i).toNat)
  case atStart => exact ⟨0, by omega, rfl, rfl, fun j hj => by omega, rfl⟩
  case round =>
    obtain ⟨k, hk, rfl, rfl, hg, rfl⟩ := hrel
    have HG := Lib.hid hg
    clear hg
    by_cases hlt : k < n
    · obtain ⟨g, off, rfl, hc⟩ := H1.out k hlt
      have HL := Lib.hid (last_succ f k)
      have HN : Hid (¬ goodAt top f k → B = false) := Lib.hid fun h => by rw [← HB.out]; exact slots_no hlt h
      have HY : Hid (goodAt top f k ↔ lastOf f k < f k ∧ f k ≤ top) := Lib.hid Iff.rfl
      generalize f k = x at *
      generalize lastOf f k = l at *
      by_cases c1 : x ≤ l
      · go_wp2_with (go_at_call 11; refine (tokId_any _ _).mono ?_; rintro e w1 ⟨rfl, rfl⟩)
        go_ret
        exact ⟨by rw [HN.out (fun q => by have := HY.out.1 q; omega)]; rfl, rfl⟩
      · by_cases c2 : top < x
        · go_wp2_with (go_at_call 11; refine (tokId_any _ _).mono ?_; rintro e w1 ⟨rfl, rfl⟩)
          go_ret
          exact ⟨by rw [HN.out (fun q => by have := HY.out.1 q; omega)]; rfl, rfl⟩
        · go_wp2_with (go_at_call 11; refine (tokId_any _ _).mono ?_; rintro e w1 ⟨rfl, rfl⟩)
          go_roundw
          case rel => exact ⟨k + 1, by omega, rfl, by rw [HL.out], fun j hj => by
            by_cases e : j = k
            · subst e; exact HY.out.2 ⟨by omega, by omega⟩
            · exact HG.out j (by omega), by first | trivial | rfl⟩
          case measure => simp [intOf]; omega
    · have HE : Hid (B = true) := Lib.hid (by rw [← HB.out]; exact slots_yes fun j hj => HG.out j (by omega))
      go_wp2
      go_ret
      exact ⟨by rw [HE.out]; rfl, rfl⟩
end Go.Proofs.YtojnfhmmglbmkaaDoor.Tok
