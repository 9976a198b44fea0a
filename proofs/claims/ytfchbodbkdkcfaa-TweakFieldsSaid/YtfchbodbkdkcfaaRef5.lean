/- reduced of the document's own functions. -/
import Derived.Test.YtfchbodbkdkcfaaRef4
namespace Go.Proofs.Ytfchbodbkdkcfaa.Ref
open Go.RowKit Go.Lib
open Go.Proofs.Ytfchbodbkdkcfaa.Blk Go.Proofs.Ytfchbodbkdkcfaa.Poly Go.Proofs.Ytfchbodbkdkcfaa.Field Go.Proofs.Ytfchbodbkdkcfaa.Ints Go.Proofs.Ytfchbodbkdkcfaa.Alg

/-- the powers, laid at bit i - 128 -/
def pmk (p : Nat → Nat) (i k : Nat) : Nat := xs k fun q => 2 ^ (i - 128 + p q)
def stp (p : Nat → Nat) (i N : Nat) : Nat := if N.testBit i then (N ^^^ 2 ^ i) ^^^ pmk p i 4 else N
def rd (p : Nat → Nat) : Nat → Nat → Nat
  | 0, N => N
  | t + 1, N => rd p t (stp p (128 + t) N)
theorem flip_one (D p q : Nat) : (D ^^^ 2 ^ p).testBit q = (if q = p then !(D.testBit q) else D.testBit q) := by
  have := flip_bit D p true q
  simp only [if_true] at this
  rw [this]
  split <;> simp

set_option maxRecDepth 100000 in
set_option maxHeartbeats 2000000 in
theorem reduced_any (N : Nat) (p : Nat → Nat) (hp : ∀ k, k < 4 → p k < 128) (g L cap m : Nat) (F : Nat → Int) (T : Nat) (hL : L = 128 + T) (hT : T < 128) (gp op cp mp : Nat) (Fp : Nat → Int) (w : World)
    (hA : LI w 3 g 0 L cap m F (bitI N)) (hP : LI w 3 gp op 4 cp mp Fp (fun k => (p k : Int))) (hne : gp ≠ g) :
    Calls Try.prog 35 #[.slice (some ⟨g, 0, none⟩) L cap, .slice (some ⟨gp, op, none⟩) 4 cp] w fun e w' =>
    e = .returned (.slice (some ⟨g, 0, none⟩) 128 cap) ∧ (∃ G, LI w' 3 g 0 L cap m G (bitI (rd p T N))) ∧ w.grownBy w' (some g) ∧ w'.heap.size = w.heap.size := by
  have HA := Lib.hid hA
  have HP := Lib.hid hP
  have HPP := Lib.hid hp
  have hcap := hA.len
  clear hA hP hp
  subst hL
  go_enter Try.func35, Try.ntmps35
  go_wp2
  go_loopw [5] (fun i wr => ∃ (t N' : Nat) (G : Nat → Int), 127 ≤ t ∧ t ≤ 127 + T ∧ i = .int .i64 (t : Int) ∧ LI wr 3 g 0 (128 + T) cap m G (bitI N') ∧ rd p (t - 127) N' = rd p T N ∧ w.grownBy wr (some g) ∧ wr.heap.size = w.heap.size) (fun i _ => (intOf i).toNat)
  case atStart => exact ⟨127 + T, N, F, by omega, Nat.le_refl _, by go_num, HA.out, by rw [Nat.add_sub_cancel_left], gb_refl _ _, rfl⟩
  case round =>
    obtain ⟨t, N', G, ht, ht2, rfl, hl, hrd, hg, hs⟩ := hrel
    have HL := Lib.hid hl
    have HR := Lib.hid hrd
    have HG := Lib.hid hg
    have HS := Lib.hid hs
    clear hl hrd hg hs
    by_cases hge : 128 ≤ t
    case neg =>
      obtain rfl : t = 127 := by omega
      go_wp2
      go_ret
      exact ⟨rfl, ⟨G, by have := HR.out; rw [show rd p (127 - 127) N' = N' from rfl] at this; rw [← this]; exact ⟨HL.out.arr, HL.out.le, by omega, HL.out.max, fun i hi => HL.out.eq i (by omega)⟩⟩, HG.out, HS.out⟩
    case pos =>
      have c1 := HL.out.cell (i := t) (by omega)
      have f1 := HL.out.arr.free t
      rw [Nat.zero_add] at c1
      have R1 : Hid (rd p (t - 128) (stp p t N') = rd p T N) := Lib.hid (by
        have := HR.out
        rw [show t - 127 = t - 128 + 1 by omega, rd, show 128 + (t - 128) = t by omega] at this
        exact this)
      unfold bitI at c1
      cases hb : N'.testBit t
      · rw [hb] at c1
        have HBT := Lib.hid hb
        clear hb
        simp only [Bool.false_eq_true, if_false] at c1
        go_wp2
        go_roundw
        case rel => exact ⟨t - 1, N', G, by omega, by omega, by go_num, HL.out, by have := R1.out; unfold stp at this; rw [HBT.out] at this; rw [show t - 1 - 127 = t - 128 by omega]; exact this, HG.out, HS.out⟩
        case measure => simp [intOf]; omega
      · rw [hb] at c1
        have HBT := Lib.hid hb
        clear hb
        simp only [if_true] at c1
        go_wp2
        have FT := Lib.hid (flip_one N' t)
        go_loopw [6] (fun k wr2 => ∃ (j : Nat) (G2 : Nat → Int), j ≤ 4 ∧ k = .int .i64 j ∧ LI wr2 3 g 0 (128 + T) cap m G2 (bitI ((N' ^^^ 2 ^ t) ^^^ pmk p t j)) ∧ w.grownBy wr2 (some g) ∧ wr2.heap.size = w.heap.size) (fun k _ => 4 - (intOf k).toNat)
        case atStart =>
          have h0 := (HL.out.store t 0).congr (f' := bitI ((N' ^^^ 2 ^ t) ^^^ pmk p t 0)) (fun i hi => by
            rw [show pmk p t 0 = 0 from rfl, Nat.xor_zero]
            unfold upd bitI
            rw [FT.out i]
            by_cases e : i = t
            · subst e; rw [if_pos rfl, if_pos rfl, HBT.out]; rfl
            · rw [if_neg e, if_neg e])
          rw [Nat.zero_add] at h0
          exact ⟨0, _, by omega, rfl, h0, gb_setCell HG.out t _, by simp [HS.out]⟩
        case round =>
          obtain ⟨j, G2, hj, rfl, hl2, hg2, hs2⟩ := hrel
          have HL2 := Lib.hid hl2
          have HG2 := Lib.hid hg2
          have HS2 := Lib.hid hs2
          clear hl2 hg2 hs2
          by_cases hlt2 : j < 4
          · have hpj := HPP.out j hlt2
            have PK : Hid (pmk p t (j + 1) = pmk p t j ^^^ 2 ^ (t - 128 + p j)) := Lib.hid rfl
            have c2 : wr.cell? ⟨gp, op + j, none⟩ = some (.int .i64 (p j : Int)) := by
              have h1 := HP.out.arr.grown HG2.out hne
              have h2 := HP.out.le
              have h3 := HP.out.len
              rw [h1.cell (by omega), HP.out.eq j hlt2]
            generalize p j = x at hpj PK c2
            have c3 := HL2.out.cell (i := t - 128 + x) (by omega)
            have f3 := HL2.out.arr.free (t - 128 + x)
            have FB := Lib.hid (flip_one ((N' ^^^ 2 ^ t) ^^^ pmk p t j) (t - 128 + x))
            rw [Nat.zero_add] at c3
            unfold bitI at c3
            cases hd : ((N' ^^^ 2 ^ t) ^^^ pmk p t j).testBit (t - 128 + x)
            all_goals
              rw [hd] at c3
              simp only [Bool.false_eq_true, if_false, if_true] at c3
              have HD := Lib.hid hd
              clear hd
              go_wp2
              go_region
              go_wp2
              go_roundw
              case rel =>
                have key : ∀ v : Int, v = (if (!(((N' ^^^ 2 ^ t) ^^^ pmk p t j).testBit (t - 128 + x))) = true then 1 else 0) → LI (wr.setCell ⟨g, t - 128 + x, none⟩ (.int .i64 v)) 3 g 0 (128 + T) cap m (upd G2 (0 + (t - 128 + x)) v) (bitI ((N' ^^^ 2 ^ t) ^^^ pmk p t (j + 1))) := fun v hv => by
                  have h1 := (HL2.out.store (t - 128 + x) v).congr (f' := bitI ((N' ^^^ 2 ^ t) ^^^ pmk p t (j + 1))) (fun i hi => by
                    rw [PK.out, ← Nat.xor_assoc]
                    unfold upd bitI
                    rw [FB.out i]
                    by_cases e : i = t - 128 + x
                    · subst e; rw [if_pos rfl, if_pos rfl, hv]
                    · rw [if_neg e, if_neg e])
                  rw [show (⟨g, 0 + (t - 128 + x), none⟩ : Addr) = ⟨g, t - 128 + x, none⟩ by rw [Nat.zero_add]] at h1
                  exact h1
                have h2 := key _ (by rw [HD.out])
                exact ⟨j + 1, _, by omega, by go_num, ⟨h2.arr, h2.le, h2.len, h2.max, h2.eq⟩, gb_drew (gb_setCell HG2.out (t - 128 + x) _), by simp [HS2.out]⟩
              case measure => simp [intOf]; omega
          · obtain rfl : j = 4 := by omega
            go_wp2
            go_roundw
            case rel => exact ⟨t - 1, _, G2, by omega, by omega, by go_num, HL2.out, by have := R1.out; unfold stp at this; rw [HBT.out] at this; rw [show t - 1 - 127 = t - 128 by omega]; exact this, HG2.out, HS2.out⟩
            case measure => simp [intOf]; omega
end Go.Proofs.Ytfchbodbkdkcfaa.Ref
