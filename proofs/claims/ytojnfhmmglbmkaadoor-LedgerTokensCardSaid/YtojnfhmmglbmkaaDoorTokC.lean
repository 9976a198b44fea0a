/- ledger.TokenMay, and what it says of a token. -/
import Derived.Test.YtojnfhmmglbmkaaDoorTokB
import Derived.Test.YtojnfhmmglbmkaaDoorTokV
namespace Go.Proofs.YtojnfhmmglbmkaaDoor.Tok
open Go.RowKit Go.Lib Go.Proofs.YtojnfhmmglbmkaaDoor.Blk Go.Proofs.YtojnfhmmglbmkaaDoor.TokV

def inB (lo hi x : Int) : Bool := decide (lo ≤ x) && decide (x ≤ hi)
def tokOk (num : Int) (kd nt : ByteArray) (n : Nat) (f : Nat → Int) : Bool :=
  inB 0 31 num && (inB 1 64 kd.size && (!decide ((4096 : Int) < nt.size) && (validD kd.data.toList && (validD nt.data.toList && slotsOk 31 n f))))
def tokV (num : Int) (kd : ByteArray) (q : Option Addr) (n cap : Nat) (nt : ByteArray) : Value := .agg #[.int .i64 num, .string kd, .slice q n cap, .string nt]

/-- a world in which a token lies in the block that was new -/
structure TW (w : World) (num : Int) (kd : ByteArray) (v : Value) (nt : ByteArray) (wx : World) : Prop where
  bel : Below w.heap.size w wx
  c0 : wx.cell? ⟨w.heap.size, 0, none⟩ = some (.int .i64 num)
  c1 : wx.cell? ⟨w.heap.size, 1, none⟩ = some (.string kd)
  c2 : wx.cell? ⟨w.heap.size, 2, none⟩ = some v
  c3 : wx.cell? ⟨w.heap.size, 3, none⟩ = some (.string nt)
theorem TW.made (w : World) (num : Int) (kd : ByteArray) (v : Value) (nt : ByteArray) (t : TypeId) : TW w num kd v nt (w.alloc (.cells #[.int .i64 num, .string kd, v, .string nt] t)) := by
  refine ⟨(Below.refl w.heap.size w).alloc (Nat.le_refl _) _, ?_, ?_, ?_, ?_⟩ <;> simp
theorem TW.keep {w : World} {num : Int} {kd : ByteArray} {v : Value} {nt : ByteArray} {wx wy : World} (h : TW w num kd v nt wx) (hb : Below wx.heap.size wx wy) : TW w num kd v nt wy := by
  have hl := Frame.block_lt h.c0
  exact ⟨h.bel.trans (hb.mono h.bel.size), by rw [← h.c0]; exact hb.cell hl, by rw [← h.c1]; exact hb.cell hl, by rw [← h.c2]; exact hb.cell hl, by rw [← h.c3]; exact hb.cell hl⟩

set_option maxRecDepth 100000 in
set_option maxHeartbeats 4000000 in
theorem tokenMay_any (num : Int) (kd nt : ByteArray) (q : Option Addr) (n cap : Nat) (f : Nat → Int) (w : World) (hT : Tabs w) (hk : kd.size ≤ 4611686018427387904) (ht : nt.size ≤ 4611686018427387904) (hn : n ≤ maxLen) (h1 : IL w q n f) :
    Calls Tryd.prog 5 #[tokV num kd q n cap nt] w fun e w' => e = .returned (.bool (tokOk num kd nt n f)) ∧ Below w.heap.size w w' := by
  have CA : ∀ w, Calls Tryd.prog 8 #[.int .i64 num, .int .i64 0, .int .i64 31] w fun e w' => e = .returned (.bool (inB 0 31 num)) ∧ w = w' := fun w => within_any _ _ _ w
  have CB : ∀ w, Calls Tryd.prog 8 #[.int .i64 kd.size, .int .i64 1, .int .i64 64] w fun e w' => e = .returned (.bool (inB 1 64 kd.size)) ∧ w = w' := fun w => within_any _ _ _ w
  obtain ⟨V1, hV1⟩ : ∃ V, validD kd.data.toList = V := ⟨_, rfl⟩
  obtain ⟨V2, hV2⟩ : ∃ V, validD nt.data.toList = V := ⟨_, rfl⟩
  obtain ⟨S, hS⟩ : ∃ V, slotsOk 31 n f = V := ⟨_, rfl⟩
  obtain ⟨C, hC⟩ : ∃ V, decide ((4096 : Int) < nt.size) = V := ⟨_, rfl⟩
  have CV1 : ∀ w', TW w num kd (.slice q n cap) nt w' → Calls Tryd.prog 9 #[.string kd] w' fun e w2 => e = .returned (.bool V1) ∧ TW w num kd (.slice q n cap) nt w2 := fun w' hb => (valid_any kd w' (by omega) (tabs_below hT hb.bel)).mono fun e w2 h => ⟨by rw [← hV1]; exact h.1, hb.keep h.2⟩
  have CV2 : ∀ w', TW w num kd (.slice q n cap) nt w' → Calls Tryd.prog 9 #[.string nt] w' fun e w2 => e = .returned (.bool V2) ∧ TW w num kd (.slice q n cap) nt w2 := fun w' hb => (valid_any nt w' (by omega) (tabs_below hT hb.bel)).mono fun e w2 h => ⟨by rw [← hV2]; exact h.1, hb.keep h.2⟩
  have CS : ∀ w', TW w num kd (.slice q n cap) nt w' → Calls Tryd.prog 10 #[.slice q n cap, .int .i64 31, .func (.func 11) #[] #[]] w' fun e w2 => e = .returned (.bool S) ∧ TW w num kd (.slice q n cap) nt w2 := fun w' hb => (rising_any q n cap f 31 w' hn (h1.below hb.bel)).mono fun e w2 h => ⟨by rw [← hS]; exact h.1, by rw [← h.2]; exact hb⟩
  have HA := Lib.hid CA
  have HB := Lib.hid CB
  have H1 := Lib.hid CV1
  have H2 := Lib.hid CV2
  have HS := Lib.hid CS
  clear CA CB CV1 CV2 CS
  obtain ⟨R, hR⟩ : ∃ R, tokOk num kd nt n f = R := ⟨_, rfl⟩
  rw [hR]
  have HR := Lib.hid hR
  unfold tokOk at HR
  rw [hV1, hV2, hS, hC] at HR
  clear hR hV1 hV2 hS h1 hT
  generalize inB 0 31 num = A at HA HR
  generalize inB 1 64 (kd.size : Int) = B at HB HR
  have HW := Lib.hid (TW.made w num kd (.slice q n cap) nt 24)
  unfold tokV
  cases A
  · go_enter Tryd.func5, Tryd.ntmps5
    go_wp2_with fail
    refine (HA.out _).mono ?_; rintro e w1 ⟨rfl, rfl⟩
    go_wp2_with fail
    go_ret
    exact ⟨by rw [← HR.out]; rfl, HW.out.bel⟩
  cases B
  · go_enter Tryd.func5, Tryd.ntmps5
    go_wp2_with fail
    refine (HA.out _).mono ?_; rintro e w1 ⟨rfl, rfl⟩
    go_wp2_with fail
    refine (HB.out _).mono ?_; rintro e w1 ⟨rfl, rfl⟩
    go_wp2_with fail
    go_ret
    exact ⟨by rw [← HR.out]; rfl, HW.out.bel⟩
  cases C
  case true =>
    have hC' : (4096 : Int) < nt.size := of_decide_eq_true hC
    clear hC
    go_enter Tryd.func5, Tryd.ntmps5
    go_wp2_with fail
    refine (HA.out _).mono ?_; rintro e w1 ⟨rfl, rfl⟩
    go_wp2_with fail
    refine (HB.out _).mono ?_; rintro e w1 ⟨rfl, rfl⟩
    go_wp2_with fail
    go_ret
    exact ⟨by rw [← HR.out]; rfl, HW.out.bel⟩
  have hC' : ¬ ((4096 : Int) < nt.size) := of_decide_eq_false hC
  clear hC
  cases V1
  · go_enter Tryd.func5, Tryd.ntmps5
    go_wp2_with fail
    refine (HA.out _).mono ?_; rintro e w1 ⟨rfl, rfl⟩
    go_wp2_with fail
    refine (HB.out _).mono ?_; rintro e w1 ⟨rfl, rfl⟩
    go_wp2_with fail
    refine (H1.out _ HW.out).mono ?_; rintro e w2 ⟨rfl, hb2⟩; have HW2 := Lib.hid hb2; obtain ⟨_, k20, k21, k22, k23⟩ := hb2
    go_wp2_with fail
    go_ret
    exact ⟨by rw [← HR.out]; rfl, HW2.out.bel⟩
  cases V2
  · go_enter Tryd.func5, Tryd.ntmps5
    go_wp2_with fail
    refine (HA.out _).mono ?_; rintro e w1 ⟨rfl, rfl⟩
    go_wp2_with fail
    refine (HB.out _).mono ?_; rintro e w1 ⟨rfl, rfl⟩
    go_wp2_with fail
    refine (H1.out _ HW.out).mono ?_; rintro e w2 ⟨rfl, hb2⟩; have HW2 := Lib.hid hb2; obtain ⟨_, k20, k21, k22, k23⟩ := hb2
    go_wp2_with fail
    refine (H2.out _ HW2.out).mono ?_; rintro e w3 ⟨rfl, hb3⟩; have HW3 := Lib.hid hb3; obtain ⟨_, k30, k31, k32, k33⟩ := hb3
    go_wp2_with fail
    go_ret
    exact ⟨by rw [← HR.out]; rfl, HW3.out.bel⟩
  go_enter Tryd.func5, Tryd.ntmps5
  go_wp2_with fail
  refine (HA.out _).mono ?_; rintro e w1 ⟨rfl, rfl⟩
  go_wp2_with fail
  refine (HB.out _).mono ?_; rintro e w1 ⟨rfl, rfl⟩
  go_wp2_with fail
  refine (H1.out _ HW.out).mono ?_; rintro e w2 ⟨rfl, hb2⟩; have HW2 := Lib.hid hb2; obtain ⟨_, k20, k21, k22, k23⟩ := hb2
  go_wp2_with fail
  refine (H2.out _ HW2.out).mono ?_; rintro e w3 ⟨rfl, hb3⟩; have HW3 := Lib.hid hb3; obtain ⟨_, k30, k31, k32, k33⟩ := hb3
  go_wp2_with fail
  refine (HS.out _ HW3.out).mono ?_; rintro e w4 ⟨rfl, hb4⟩; have HW4 := Lib.hid hb4; clear hb4
  go_wp2_with fail
  go_ret
  exact ⟨by rw [← HR.out]; rfl, HW4.out.bel⟩
end Go.Proofs.YtojnfhmmglbmkaaDoor.Tok
