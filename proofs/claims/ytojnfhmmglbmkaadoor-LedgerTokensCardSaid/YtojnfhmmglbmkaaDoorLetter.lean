/- Letter and IsText of the document's chapter 7, at every text. -/
import Derived.Test.YtojnfhmmglbmkaaDoorBase
import Derived.Test.YtojnfhmmglbmkaaDoorUtf
namespace Go.Proofs.YtojnfhmmglbmkaaDoor.Letter
open Go.RowKit Go.Lib Go.Proofs.YtojnfhmmglbmkaaDoor.Utf

/-- the outcome -/
def pairV (d : Nat × Nat) : Value := .tuple #[.int .i64 d.1, .int .i64 d.2]
theorem get_of (s : ByteArray) (k : Nat) (h : k < s.size) : s.get! k = s[k]'h := by
  cases s with
  | mk d => exact getElem!_pos d k h
theorem hd_neg {p : Prop} [Decidable p] {x y d : Nat × Nat} (h : Hid ((if p then x else y) = d)) (hn : ¬ p) : y = d := by have := h.out; rwa [if_neg hn] at this
theorem hd_pos {p : Prop} [Decidable p] {x y d : Nat × Nat} (h : Hid ((if p then x else y) = d)) (hn : p) : x = d := by have := h.out; rwa [if_pos hn] at this
theorem byte_lt (c : UInt8) (b : Nat) (h : c.toNat = b) : b < 256 := by have := UInt8.toNat_lt c; omega

set_option maxRecDepth 100000 in
set_option maxHeartbeats 4000000 in
theorem letter_low (s : ByteArray) (i : Nat) (hi : i < s.size) (w : World) (c0 : UInt8) (b0 : Nat) (hc0 : s[i]'hi = c0) (ht0 : c0.toNat = b0) (hb0 : b0 < 256) (h : b0 < 128) :
    Calls Tryd.prog 16 #[.string s, .int .i64 i] w fun e w' => e = .returned (pairV (b0, 1)) ∧ w = w' := by
  have hiz : (i : Int) < s.size := by omega
  go_enter Tryd.func16, Tryd.ntmps16
  go_wp2
  go_ret2
  exact ⟨rfl, rfl⟩
set_option maxRecDepth 100000 in
set_option maxHeartbeats 4000000 in
theorem letter_none (s : ByteArray) (i : Nat) (hi : i < s.size) (w : World) (c0 : UInt8) (b0 : Nat) (hc0 : s[i]'hi = c0) (ht0 : c0.toNat = b0) (hb0 : b0 < 256) (h : (128 ≤ b0 ∧ b0 < 192) ∨ 248 ≤ b0) :
    Calls Tryd.prog 16 #[.string s, .int .i64 i] w fun e w' => e = .returned (pairV (0, 0)) ∧ w = w' := by
  have hiz : (i : Int) < s.size := by omega
  rcases h with h | h
  all_goals
    go_enter Tryd.func16, Tryd.ntmps16
    go_wp2
    go_ret2
    exact ⟨rfl, rfl⟩
set_option maxRecDepth 100000 in
set_option maxHeartbeats 4000000 in
theorem letter_short2 (s : ByteArray) (i : Nat) (hi : i < s.size) (hs' : s.size ≤ 4611686018427387904) (w : World) (c0 : UInt8) (b0 : Nat) (hc0 : s[i]'hi = c0) (ht0 : c0.toNat = b0) (hb0 : b0 < 256) (h : 192 ≤ b0 ∧ b0 < 224) (hn : s.size < i + 2) :
    Calls Tryd.prog 16 #[.string s, .int .i64 i] w fun e w' => e = .returned (pairV (0, 0)) ∧ w = w' := by
  have hiz : (i : Int) < s.size := by omega
  have hnz : (s.size : Int) < i + 2 := by omega
  go_enter Tryd.func16, Tryd.ntmps16
  go_wp2
  go_ret2
  exact ⟨rfl, rfl⟩
set_option maxRecDepth 100000 in
set_option maxHeartbeats 4000000 in
theorem letter_2 (s : ByteArray) (i : Nat) (hi : i < s.size) (hs' : s.size ≤ 4611686018427387904) (w : World) (c0 : UInt8) (b0 : Nat) (hc0 : s[i]'hi = c0) (ht0 : c0.toNat = b0) (hb0 : b0 < 256) (h : 192 ≤ b0 ∧ b0 < 224) (hn : i + 2 ≤ s.size) (c1 : UInt8) (b1 : Nat) (hc1 : s[i + 1]'(by omega) = c1) (ht1 : c1.toNat = b1) (hb1 : b1 < 256) (d : Nat × Nat) (HD : Hid ((if C b1 ∧ okV 128 ((b0 - 192) * 64 + (b1 - 128)) then (((b0 - 192) * 64 + (b1 - 128)), 2) else (0, 0)) = d)) :
    Calls Tryd.prog 16 #[.string s, .int .i64 i] w fun e w' => e = .returned (pairV d) ∧ w = w' := by
  have hiz : (i : Int) < s.size := by omega
  have hnz : (i : Int) + 2 ≤ s.size := by omega
  have hk1 : (i : Int) + 1 < s.size := by omega
  go_enter Tryd.func16, Tryd.ntmps16
  go_upto_region 21 with fail
  go_cut [7, 8, 9, 10] from 12 to 55 (fun n v l k wx => n = .int .i64 2 ∧ v = .int .i64 (b0 - 192) ∧ l = .int .i64 128 ∧ k = .int .i64 1 ∧ w = wx)
  case first =>
    go_wp2_with fail
    go_meet
    case rel => exact ⟨rfl, rfl, rfl, rfl, rfl⟩
  obtain ⟨rfl, rfl, rfl, rfl, rfl⟩ := hcut
  go_wp2
  go_loopw [10, 8] (fun k v wr => ((k = .int .i64 1 ∧ v = .int .i64 ((b0 : Int) - 192)) ∨ (k = .int .i64 2 ∧ v = .int .i64 (((b0 : Int) - 192) * 64 + b1 - 128) ∧ C b1)) ∧ w = wr) (fun k _ _ => 2 - (RowKit.intOf k).toNat)
  case atStart => exact ⟨.inl ⟨rfl, rfl⟩, rfl⟩
  case round =>
    obtain ⟨hrel, rfl⟩ := hrel
    rcases hrel with ⟨rfl, rfl⟩ | ⟨rfl, rfl, g1⟩
    · skip
      by_cases lo : b1 < 128
      · go_wp2
        go_ret2
        obtain rfl := hd_neg HD (fun q => by have := q.1; unfold C at this; omega)
        exact ⟨rfl, rfl⟩
      by_cases hi2 : 192 ≤ b1
      · go_wp2
        go_ret2
        obtain rfl := hd_neg HD (fun q => by have := q.1; unfold C at this; omega)
        exact ⟨rfl, rfl⟩
      go_wp2
      go_roundw
      case rel =>
        exact ⟨.inr ⟨rfl, by first | rfl | (congr 1; omega), ⟨by omega, by omega⟩⟩, by first | trivial | rfl⟩
      case measure => simp [RowKit.intOf]
    · unfold C at g1
      have ev : ((b0 : Int) - 192) * 64 + b1 - 128 = ((((b0 - 192) * 64 + (b1 - 128)) : Nat) : Int) := by omega
      rw [ev]
      have gC : C b1 := g1
      have GC : Hid (C b1) := Lib.hid gC
      clear gC ev hc1 ht1
      generalize ((b0 - 192) * 64 + (b1 - 128)) = V at HD ⊢
      by_cases k1 : V < 128
      · go_wp2
        go_ret2
        obtain rfl := hd_neg HD (fun q => by have := q.2; unfold okV at this; omega)
        exact ⟨rfl, rfl⟩
      by_cases k2 : 1114111 < V
      · go_wp2
        go_ret2
        obtain rfl := hd_neg HD (fun q => by have := q.2; unfold okV at this; omega)
        exact ⟨rfl, rfl⟩
      by_cases k3 : V < 55296
      · go_wp2
        go_ret2
        obtain rfl := hd_pos HD (by have := GC.out; exact ⟨this, by unfold okV; omega⟩)
        exact ⟨rfl, rfl⟩
      by_cases k4 : V < 57344
      · go_wp2
        go_ret2
        obtain rfl := hd_neg HD (fun q => by have := q.2; unfold okV at this; omega)
        exact ⟨rfl, rfl⟩
      go_wp2
      go_ret2
      obtain rfl := hd_pos HD (by have := GC.out; exact ⟨this, by unfold okV; omega⟩)
      exact ⟨rfl, rfl⟩
set_option maxRecDepth 100000 in
set_option maxHeartbeats 4000000 in
theorem letter_short3 (s : ByteArray) (i : Nat) (hi : i < s.size) (hs' : s.size ≤ 4611686018427387904) (w : World) (c0 : UInt8) (b0 : Nat) (hc0 : s[i]'hi = c0) (ht0 : c0.toNat = b0) (hb0 : b0 < 256) (h : 224 ≤ b0 ∧ b0 < 240) (hn : s.size < i + 3) :
    Calls Tryd.prog 16 #[.string s, .int .i64 i] w fun e w' => e = .returned (pairV (0, 0)) ∧ w = w' := by
  have hiz : (i : Int) < s.size := by omega
  have hnz : (s.size : Int) < i + 3 := by omega
  go_enter Tryd.func16, Tryd.ntmps16
  go_wp2
  go_ret2
  exact ⟨rfl, rfl⟩
set_option maxRecDepth 100000 in
set_option maxHeartbeats 4000000 in
theorem letter_3 (s : ByteArray) (i : Nat) (hi : i < s.size) (hs' : s.size ≤ 4611686018427387904) (w : World) (c0 : UInt8) (b0 : Nat) (hc0 : s[i]'hi = c0) (ht0 : c0.toNat = b0) (hb0 : b0 < 256) (h : 224 ≤ b0 ∧ b0 < 240) (hn : i + 3 ≤ s.size) (c1 : UInt8) (b1 : Nat) (hc1 : s[i + 1]'(by omega) = c1) (ht1 : c1.toNat = b1) (hb1 : b1 < 256) (c2 : UInt8) (b2 : Nat) (hc2 : s[i + 2]'(by omega) = c2) (ht2 : c2.toNat = b2) (hb2 : b2 < 256) (d : Nat × Nat) (HD : Hid ((if C b1 ∧ C b2 ∧ okV 2048 (((b0 - 224) * 64 + (b1 - 128)) * 64 + (b2 - 128)) then ((((b0 - 224) * 64 + (b1 - 128)) * 64 + (b2 - 128)), 3) else (0, 0)) = d)) :
    Calls Tryd.prog 16 #[.string s, .int .i64 i] w fun e w' => e = .returned (pairV d) ∧ w = w' := by
  have hiz : (i : Int) < s.size := by omega
  have hnz : (i : Int) + 3 ≤ s.size := by omega
  have hk1 : (i : Int) + 1 < s.size := by omega
  have hk2 : (i : Int) + 2 < s.size := by omega
  go_enter Tryd.func16, Tryd.ntmps16
  go_upto_region 21 with fail
  go_cut [7, 8, 9, 10] from 12 to 55 (fun n v l k wx => n = .int .i64 3 ∧ v = .int .i64 (b0 - 224) ∧ l = .int .i64 2048 ∧ k = .int .i64 1 ∧ w = wx)
  case first =>
    go_wp2_with fail
    go_meet
    case rel => exact ⟨rfl, rfl, rfl, rfl, rfl⟩
  obtain ⟨rfl, rfl, rfl, rfl, rfl⟩ := hcut
  go_wp2
  go_loopw [10, 8] (fun k v wr => ((k = .int .i64 1 ∧ v = .int .i64 ((b0 : Int) - 224)) ∨ (k = .int .i64 2 ∧ v = .int .i64 (((b0 : Int) - 224) * 64 + b1 - 128) ∧ C b1) ∨ (k = .int .i64 3 ∧ v = .int .i64 ((((b0 : Int) - 224) * 64 + b1 - 128) * 64 + b2 - 128) ∧ C b1 ∧ C b2)) ∧ w = wr) (fun k _ _ => 3 - (RowKit.intOf k).toNat)
  case atStart => exact ⟨.inl ⟨rfl, rfl⟩, rfl⟩
  case round =>
    obtain ⟨hrel, rfl⟩ := hrel
    rcases hrel with ⟨rfl, rfl⟩ | ⟨rfl, rfl, g1⟩ | ⟨rfl, rfl, g1, g2⟩
    · skip
      by_cases lo : b1 < 128
      · go_wp2
        go_ret2
        obtain rfl := hd_neg HD (fun q => by have := q.1; unfold C at this; omega)
        exact ⟨rfl, rfl⟩
      by_cases hi2 : 192 ≤ b1
      · go_wp2
        go_ret2
        obtain rfl := hd_neg HD (fun q => by have := q.1; unfold C at this; omega)
        exact ⟨rfl, rfl⟩
      go_wp2
      go_roundw
      case rel =>
        exact ⟨.inr (.inl ⟨rfl, by first | rfl | (congr 1; omega), ⟨by omega, by omega⟩⟩), by first | trivial | rfl⟩
      case measure => simp [RowKit.intOf]
    · unfold C at g1
      by_cases lo : b2 < 128
      · go_wp2
        go_ret2
        obtain rfl := hd_neg HD (fun q => by have := q.2.1; unfold C at this; omega)
        exact ⟨rfl, rfl⟩
      by_cases hi2 : 192 ≤ b2
      · go_wp2
        go_ret2
        obtain rfl := hd_neg HD (fun q => by have := q.2.1; unfold C at this; omega)
        exact ⟨rfl, rfl⟩
      go_wp2
      go_roundw
      case rel =>
        exact ⟨.inr (.inr ⟨rfl, by first | rfl | (congr 1; omega), g1, ⟨by omega, by omega⟩⟩), by first | trivial | rfl⟩
      case measure => simp [RowKit.intOf]
    · unfold C at g1 g2
      have ev : (((b0 : Int) - 224) * 64 + b1 - 128) * 64 + b2 - 128 = (((((b0 - 224) * 64 + (b1 - 128)) * 64 + (b2 - 128)) : Nat) : Int) := by omega
      rw [ev]
      have gC : C b1 ∧ C b2 := ⟨g1, g2⟩
      have GC : Hid (C b1 ∧ C b2) := Lib.hid gC
      clear gC ev hc1 ht1 hc2 ht2
      generalize (((b0 - 224) * 64 + (b1 - 128)) * 64 + (b2 - 128)) = V at HD ⊢
      by_cases k1 : V < 2048
      · go_wp2
        go_ret2
        obtain rfl := hd_neg HD (fun q => by have := q.2.2; unfold okV at this; omega)
        exact ⟨rfl, rfl⟩
      by_cases k2 : 1114111 < V
      · go_wp2
        go_ret2
        obtain rfl := hd_neg HD (fun q => by have := q.2.2; unfold okV at this; omega)
        exact ⟨rfl, rfl⟩
      by_cases k3 : V < 55296
      · go_wp2
        go_ret2
        obtain rfl := hd_pos HD (by have := GC.out; exact ⟨this.1, this.2, by unfold okV; omega⟩)
        exact ⟨rfl, rfl⟩
      by_cases k4 : V < 57344
      · go_wp2
        go_ret2
        obtain rfl := hd_neg HD (fun q => by have := q.2.2; unfold okV at this; omega)
        exact ⟨rfl, rfl⟩
      go_wp2
      go_ret2
      obtain rfl := hd_pos HD (by have := GC.out; exact ⟨this.1, this.2, by unfold okV; omega⟩)
      exact ⟨rfl, rfl⟩
set_option maxRecDepth 100000 in
set_option maxHeartbeats 4000000 in
theorem letter_short4 (s : ByteArray) (i : Nat) (hi : i < s.size) (hs' : s.size ≤ 4611686018427387904) (w : World) (c0 : UInt8) (b0 : Nat) (hc0 : s[i]'hi = c0) (ht0 : c0.toNat = b0) (hb0 : b0 < 256) (h : 240 ≤ b0 ∧ b0 < 248) (hn : s.size < i + 4) :
    Calls Tryd.prog 16 #[.string s, .int .i64 i] w fun e w' => e = .returned (pairV (0, 0)) ∧ w = w' := by
  have hiz : (i : Int) < s.size := by omega
  have hnz : (s.size : Int) < i + 4 := by omega
  go_enter Tryd.func16, Tryd.ntmps16
  go_wp2
  go_ret2
  exact ⟨rfl, rfl⟩
set_option maxRecDepth 100000 in
set_option maxHeartbeats 4000000 in
theorem letter_4 (s : ByteArray) (i : Nat) (hi : i < s.size) (hs' : s.size ≤ 4611686018427387904) (w : World) (c0 : UInt8) (b0 : Nat) (hc0 : s[i]'hi = c0) (ht0 : c0.toNat = b0) (hb0 : b0 < 256) (h : 240 ≤ b0 ∧ b0 < 248) (hn : i + 4 ≤ s.size) (c1 : UInt8) (b1 : Nat) (hc1 : s[i + 1]'(by omega) = c1) (ht1 : c1.toNat = b1) (hb1 : b1 < 256) (c2 : UInt8) (b2 : Nat) (hc2 : s[i + 2]'(by omega) = c2) (ht2 : c2.toNat = b2) (hb2 : b2 < 256) (c3 : UInt8) (b3 : Nat) (hc3 : s[i + 3]'(by omega) = c3) (ht3 : c3.toNat = b3) (hb3 : b3 < 256) (d : Nat × Nat) (HD : Hid ((if C b1 ∧ C b2 ∧ C b3 ∧ okV 65536 ((((b0 - 240) * 64 + (b1 - 128)) * 64 + (b2 - 128)) * 64 + (b3 - 128)) then (((((b0 - 240) * 64 + (b1 - 128)) * 64 + (b2 - 128)) * 64 + (b3 - 128)), 4) else (0, 0)) = d)) :
    Calls Tryd.prog 16 #[.string s, .int .i64 i] w fun e w' => e = .returned (pairV d) ∧ w = w' := by
  have hiz : (i : Int) < s.size := by omega
  have hnz : (i : Int) + 4 ≤ s.size := by omega
  have hk1 : (i : Int) + 1 < s.size := by omega
  have hk2 : (i : Int) + 2 < s.size := by omega
  have hk3 : (i : Int) + 3 < s.size := by omega
  go_enter Tryd.func16, Tryd.ntmps16
  go_upto_region 21 with fail
  go_cut [7, 8, 9, 10] from 12 to 55 (fun n v l k wx => n = .int .i64 4 ∧ v = .int .i64 (b0 - 240) ∧ l = .int .i64 65536 ∧ k = .int .i64 1 ∧ w = wx)
  case first =>
    go_wp2_with fail
    go_meet
    case rel => exact ⟨rfl, rfl, rfl, rfl, rfl⟩
  obtain ⟨rfl, rfl, rfl, rfl, rfl⟩ := hcut
  go_wp2
  go_loopw [10, 8] (fun k v wr => ((k = .int .i64 1 ∧ v = .int .i64 ((b0 : Int) - 240)) ∨ (k = .int .i64 2 ∧ v = .int .i64 (((b0 : Int) - 240) * 64 + b1 - 128) ∧ C b1) ∨ (k = .int .i64 3 ∧ v = .int .i64 ((((b0 : Int) - 240) * 64 + b1 - 128) * 64 + b2 - 128) ∧ C b1 ∧ C b2) ∨ (k = .int .i64 4 ∧ v = .int .i64 (((((b0 : Int) - 240) * 64 + b1 - 128) * 64 + b2 - 128) * 64 + b3 - 128) ∧ C b1 ∧ C b2 ∧ C b3)) ∧ w = wr) (fun k _ _ => 4 - (RowKit.intOf k).toNat)
  case atStart => exact ⟨.inl ⟨rfl, rfl⟩, rfl⟩
  case round =>
    obtain ⟨hrel, rfl⟩ := hrel
    rcases hrel with ⟨rfl, rfl⟩ | ⟨rfl, rfl, g1⟩ | ⟨rfl, rfl, g1, g2⟩ | ⟨rfl, rfl, g1, g2, g3⟩
    · skip
      by_cases lo : b1 < 128
      · go_wp2
        go_ret2
        obtain rfl := hd_neg HD (fun q => by have := q.1; unfold C at this; omega)
        exact ⟨rfl, rfl⟩
      by_cases hi2 : 192 ≤ b1
      · go_wp2
        go_ret2
        obtain rfl := hd_neg HD (fun q => by have := q.1; unfold C at this; omega)
        exact ⟨rfl, rfl⟩
      go_wp2
      go_roundw
      case rel =>
        exact ⟨.inr (.inl ⟨rfl, by first | rfl | (congr 1; omega), ⟨by omega, by omega⟩⟩), by first | trivial | rfl⟩
      case measure => simp [RowKit.intOf]
    · unfold C at g1
      by_cases lo : b2 < 128
      · go_wp2
        go_ret2
        obtain rfl := hd_neg HD (fun q => by have := q.2.1; unfold C at this; omega)
        exact ⟨rfl, rfl⟩
      by_cases hi2 : 192 ≤ b2
      · go_wp2
        go_ret2
        obtain rfl := hd_neg HD (fun q => by have := q.2.1; unfold C at this; omega)
        exact ⟨rfl, rfl⟩
      go_wp2
      go_roundw
      case rel =>
        exact ⟨.inr (.inr (.inl ⟨rfl, by first | rfl | (congr 1; omega), g1, ⟨by omega, by omega⟩⟩)), by first | trivial | rfl⟩
      case measure => simp [RowKit.intOf]
    · unfold C at g1 g2
      by_cases lo : b3 < 128
      · go_wp2
        go_ret2
        obtain rfl := hd_neg HD (fun q => by have := q.2.2.1; unfold C at this; omega)
        exact ⟨rfl, rfl⟩
      by_cases hi2 : 192 ≤ b3
      · go_wp2
        go_ret2
        obtain rfl := hd_neg HD (fun q => by have := q.2.2.1; unfold C at this; omega)
        exact ⟨rfl, rfl⟩
      go_wp2
      go_roundw
      case rel =>
        exact ⟨.inr (.inr (.inr ⟨rfl, by first | rfl | (congr 1; omega), g1, g2, ⟨by omega, by omega⟩⟩)), by first | trivial | rfl⟩
      case measure => simp [RowKit.intOf]
    · unfold C at g1 g2 g3
      have ev : ((((b0 : Int) - 240) * 64 + b1 - 128) * 64 + b2 - 128) * 64 + b3 - 128 = ((((((b0 - 240) * 64 + (b1 - 128)) * 64 + (b2 - 128)) * 64 + (b3 - 128)) : Nat) : Int) := by omega
      rw [ev]
      have gC : C b1 ∧ C b2 ∧ C b3 := ⟨g1, g2, g3⟩
      have GC : Hid (C b1 ∧ C b2 ∧ C b3) := Lib.hid gC
      clear gC ev hc1 ht1 hc2 ht2 hc3 ht3
      generalize ((((b0 - 240) * 64 + (b1 - 128)) * 64 + (b2 - 128)) * 64 + (b3 - 128)) = V at HD ⊢
      by_cases k1 : V < 65536
      · go_wp2
        go_ret2
        obtain rfl := hd_neg HD (fun q => by have := q.2.2.2; unfold okV at this; omega)
        exact ⟨rfl, rfl⟩
      by_cases k2 : 1114111 < V
      · go_wp2
        go_ret2
        obtain rfl := hd_neg HD (fun q => by have := q.2.2.2; unfold okV at this; omega)
        exact ⟨rfl, rfl⟩
      go_wp2
      go_ret2
      obtain rfl := hd_pos HD (by have := GC.out; exact ⟨this.1, this.2.1, this.2.2, by unfold okV; omega⟩)
      exact ⟨rfl, rfl⟩
set_option maxHeartbeats 1000000 in
theorem letter_any (s : ByteArray) (i : Nat) (hi : i < s.size) (hs : s.size ≤ 4611686018427387904) (w : World) :
    Calls Tryd.prog 16 #[.string s, .int .i64 i] w fun e w' => e = .returned (pairV (letAt s i)) ∧ w = w' := by
  have l0 := UInt8.toNat_lt (s.get! i)
  have l1 := UInt8.toNat_lt (s.get! (i + 1))
  have l2 := UInt8.toNat_lt (s.get! (i + 2))
  have l3 := UInt8.toNat_lt (s.get! (i + 3))
  have e0 := get_of s i hi
  unfold letAt letN
  by_cases c0 : (s.get! i).toNat < 128
  · rw [if_pos c0]; exact letter_low s i hi w _ _ e0.symm rfl l0 c0
  rw [if_neg c0]
  by_cases c1 : 192 ≤ (s.get! i).toNat ∧ (s.get! i).toNat < 224
  · rw [if_pos c1]
    by_cases k : s.size < i + 2
    · rw [if_neg (fun q => by omega)]; exact letter_short2 s i hi hs w _ _ e0.symm rfl l0 c1 k
    · have := letter_2 s i hi hs w _ _ e0.symm rfl l0 c1 (by omega) _ _ (get_of s (i + 1) (by omega)).symm rfl l1 _ (Lib.hid rfl)
      have h2 : 2 ≤ s.size - i := by omega
      simpa only [h2, true_and] using this
  rw [if_neg c1]
  by_cases c2 : 224 ≤ (s.get! i).toNat ∧ (s.get! i).toNat < 240
  · rw [if_pos c2]
    by_cases k : s.size < i + 3
    · rw [if_neg (fun q => by omega)]; exact letter_short3 s i hi hs w _ _ e0.symm rfl l0 c2 k
    · have := letter_3 s i hi hs w _ _ e0.symm rfl l0 c2 (by omega) _ _ (get_of s (i + 1) (by omega)).symm rfl l1 _ _ (get_of s (i + 2) (by omega)).symm rfl l2 _ (Lib.hid rfl)
      have h2 : 3 ≤ s.size - i := by omega
      simpa only [h2, true_and] using this
  rw [if_neg c2]
  by_cases c3 : 240 ≤ (s.get! i).toNat ∧ (s.get! i).toNat < 248
  · rw [if_pos c3]
    by_cases k : s.size < i + 4
    · rw [if_neg (fun q => by omega)]; exact letter_short4 s i hi hs w _ _ e0.symm rfl l0 c3 k
    · have := letter_4 s i hi hs w _ _ e0.symm rfl l0 c3 (by omega) _ _ (get_of s (i + 1) (by omega)).symm rfl l1 _ _ (get_of s (i + 2) (by omega)).symm rfl l2 _ _ (get_of s (i + 3) (by omega)).symm rfl l3 _ (Lib.hid rfl)
      have h2 : 4 ≤ s.size - i := by omega
      simpa only [h2, true_and] using this
  rw [if_neg c3]
  exact letter_none s i hi w _ _ e0.symm rfl l0 (by omega)

end Go.Proofs.YtojnfhmmglbmkaaDoor.Letter
