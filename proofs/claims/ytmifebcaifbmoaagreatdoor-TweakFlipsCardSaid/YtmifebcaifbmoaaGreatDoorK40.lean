/- Parts of the proof of TweakFlips. MadeK: cofferlaw03: Pick.made of XTS, ECB, CBC. -/
import Derived.Test.YtmifebcaifbmoaaGreatDoorK34
import Derived.Test.YtmifebcaifbmoaaGreatDoorK39
/- MadeK -/
section
namespace Go.Proofs.YtmifebcaifbmoaaGreatDoor.G
open Go.RowKit Go.Lib Go.Proofs.YtmifebcaifbmoaaGreatDoor.Blk Go.Proofs.YtmifebcaifbmoaaGreatDoor.Aes Go.Proofs.YtmifebcaifbmoaaGreatDoor.Tab Go.Proofs.YtmifebcaifbmoaaGreatDoor.Byts Go.Proofs.YtmifebcaifbmoaaGreatDoor.Push Go.Proofs.YtmifebcaifbmoaaGreatDoor.Tw

/-- all that a made cipher asks of the variables -/
structure Vars (w : World) : Prop where
  m : Modes w
  s : Sizes w
  r : RconAt w
  d : DgW w
  g : Ref3.RgW w
theorem Vars.below {w w' : World} (h : Vars w) (b : Below w.heap.size w w') : Vars w' := ⟨h.m.below b, h.s.below b, h.r.below b, h.d.below b, h.g.below b⟩
/-- a cipher of XTS -/
def PrX (E : Nat → Nat) (cb : Nat) (w : World) : Prop := ∃ k iv O, ∃ T : Nat → Nat, CiphG k cb true iv (fun s n f => xtsF E false (T s) n f) O w
theorem PrX.kp {E : Nat → Nat} (cb : Nat) (w1 w2 : World) (h : PrX E cb w1) (q : Kp w1 w2) : PrX E cb w2 := by
  obtain ⟨k, iv, O, T, h⟩ := h
  exact ⟨k, iv, O, T, h.kp q⟩
/-- a cipher of CBC, opened -/
def PrC (D : Nat → Nat) (cb : Nat) (w : World) : Prop := ∃ k iv S, CiphG k cb false iv S (fun s n f => cbcO D (iv s n) n f) w
theorem PrC.kp {D : Nat → Nat} (cb : Nat) (w1 w2 : World) (h : PrC D cb w1) (q : Kp w1 w2) : PrC D cb w2 := by
  obtain ⟨k, iv, S, h⟩ := h
  exact ⟨k, iv, S, h.kp q⟩
/-- a cipher of ECB -/
def PrE (E : Nat → Nat) (cb : Nat) (w : World) : Prop := ∃ iv O, CiphG 0 cb false iv (fun _ n f => blkF (fun _ b => E b) f (n / 16)) O w
theorem PrE.kp {E : Nat → Nat} (cb : Nat) (w1 w2 : World) (h : PrE E cb w1) (q : Kp w1 w2) : PrE E cb w2 := by
  obtain ⟨iv, S, h⟩ := h
  exact ⟨iv, S, h.kp q⟩
section
variable (i0 : Nat) (hi : i0 < 3) (q : Option Addr) (n cap : Nat) (f : Nat → Nat) (hf : ∀ j, f j < 256) (w : World) (hV : Vars w) (hB : BL w q n f) (hnc : n ≤ cap) (hcm : cap ≤ 9223372036854775807)
include hi hf hV hB hnc hcm
theorem madeC1 : Calls Tryz.prog 11 #[pickV ((1 + 17 * i0 + 1 : Nat) : Int) q n cap] w fun e w' => ∃ cb rb, e = .returned (.tuple #[.pointer (some ⟨cb, 0, none⟩), .pointer (some ⟨rb, 0, none⟩), .bool true]) ∧ PrC (keyD (keyF n f) (4 + 2 * i0)) cb w' ∧ Below w.heap.size w w' :=
  made_any i0 1 hi (by decide) (16 + 8 * i0) (by unfold szT; rw [if_neg (by decide)]; simp [moT]) (by omega) (PrC (keyD (keyF n f) (4 + 2 * i0))) PrC.kp q n cap f hf w hV.m hV.r hB hnc hcm
    (fun g c w' h1 h2 h3 b => (newCbc1_any (keyF n f) i0 hi (keyF_lt hf) g 0 c w' h3 (hV.r.below b) (hV.s.below b) (hV.d.below b) h2 h1).mono fun e w2 ⟨cb, F, e1, e2, e3, e4⟩ => ⟨cb, e1, ⟨_, _, _, e3⟩, e4⟩)
    (fun g c w' h1 h2 h3 b => by
      have e : 16 + 8 * i0 = 4 * (4 + 2 * i0) := by omega
      rw [e] at h1 h2 ⊢
      exact Ref3.newK1_any i0 hi g 0 c (keyF n f) (keyF_lt hf) w' h1 h2 h3 (hV.m.below b) (hV.g.below b))
theorem madeC2 : Calls Tryz.prog 11 #[pickV ((1 + 17 * i0 + 2 : Nat) : Int) q n cap] w fun e w' => ∃ cb rb, e = .returned (.tuple #[.pointer (some ⟨cb, 0, none⟩), .pointer (some ⟨rb, 0, none⟩), .bool true]) ∧ PrC (keyD (keyF n f) (4 + 2 * i0)) cb w' ∧ Below w.heap.size w w' :=
  made_any i0 2 hi (by decide) (16 + 8 * i0) (by unfold szT; rw [if_neg (by decide)]; simp [moT]) (by omega) (PrC (keyD (keyF n f) (4 + 2 * i0))) PrC.kp q n cap f hf w hV.m hV.r hB hnc hcm
    (fun g c w' h1 h2 h3 b => (newCbc2_any (keyF n f) i0 hi (keyF_lt hf) g 0 c w' h3 (hV.r.below b) (hV.s.below b) (hV.d.below b) h2 h1).mono fun e w2 ⟨cb, F, e1, e2, e3, e4⟩ => ⟨cb, e1, ⟨_, _, _, e3⟩, e4⟩)
    (fun g c w' h1 h2 h3 b => by
      have e : 16 + 8 * i0 = 4 * (4 + 2 * i0) := by omega
      rw [e] at h1 h2 ⊢
      exact Ref3.newK2_any i0 hi g 0 c (keyF n f) (keyF_lt hf) w' h1 h2 h3 (hV.m.below b) (hV.g.below b))
theorem madeC3 : Calls Tryz.prog 11 #[pickV ((1 + 17 * i0 + 3 : Nat) : Int) q n cap] w fun e w' => ∃ cb rb, e = .returned (.tuple #[.pointer (some ⟨cb, 0, none⟩), .pointer (some ⟨rb, 0, none⟩), .bool true]) ∧ PrC (keyD (keyF n f) (4 + 2 * i0)) cb w' ∧ Below w.heap.size w w' :=
  made_any i0 3 hi (by decide) (16 + 8 * i0) (by unfold szT; rw [if_neg (by decide)]; simp [moT]) (by omega) (PrC (keyD (keyF n f) (4 + 2 * i0))) PrC.kp q n cap f hf w hV.m hV.r hB hnc hcm
    (fun g c w' h1 h2 h3 b => (newCbc3_any (keyF n f) i0 hi (keyF_lt hf) g 0 c w' h3 (hV.r.below b) (hV.s.below b) (hV.d.below b) h2 h1).mono fun e w2 ⟨cb, F, e1, e2, e3, e4⟩ => ⟨cb, e1, ⟨_, _, _, e3⟩, e4⟩)
    (fun g c w' h1 h2 h3 b => by
      have e : 16 + 8 * i0 = 4 * (4 + 2 * i0) := by omega
      rw [e] at h1 h2 ⊢
      exact Ref3.newK3_any i0 hi g 0 c (keyF n f) (keyF_lt hf) w' h1 h2 h3 (hV.m.below b) (hV.g.below b))
theorem madeC4 : Calls Tryz.prog 11 #[pickV ((1 + 17 * i0 + 4 : Nat) : Int) q n cap] w fun e w' => ∃ cb rb, e = .returned (.tuple #[.pointer (some ⟨cb, 0, none⟩), .pointer (some ⟨rb, 0, none⟩), .bool true]) ∧ PrC (keyD (keyF n f) (4 + 2 * i0)) cb w' ∧ Below w.heap.size w w' :=
  made_any i0 4 hi (by decide) (16 + 8 * i0) (by unfold szT; rw [if_neg (by decide)]; simp [moT]) (by omega) (PrC (keyD (keyF n f) (4 + 2 * i0))) PrC.kp q n cap f hf w hV.m hV.r hB hnc hcm
    (fun g c w' h1 h2 h3 b => (newCbc4_any (keyF n f) i0 hi (keyF_lt hf) g 0 c w' h3 (hV.r.below b) (hV.s.below b) (hV.d.below b) h2 h1).mono fun e w2 ⟨cb, F, e1, e2, e3, e4⟩ => ⟨cb, e1, ⟨_, _, _, e3⟩, e4⟩)
    (fun g c w' h1 h2 h3 b => by
      have e : 16 + 8 * i0 = 4 * (4 + 2 * i0) := by omega
      rw [e] at h1 h2 ⊢
      exact Ref3.newK4_any i0 hi g 0 c (keyF n f) (keyF_lt hf) w' h1 h2 h3 (hV.m.below b) (hV.g.below b))
theorem madeC5 : Calls Tryz.prog 11 #[pickV ((1 + 17 * i0 + 5 : Nat) : Int) q n cap] w fun e w' => ∃ cb rb, e = .returned (.tuple #[.pointer (some ⟨cb, 0, none⟩), .pointer (some ⟨rb, 0, none⟩), .bool true]) ∧ PrC (keyD (keyF n f) (4 + 2 * i0)) cb w' ∧ Below w.heap.size w w' :=
  made_any i0 5 hi (by decide) (16 + 8 * i0) (by unfold szT; rw [if_neg (by decide)]; simp [moT]) (by omega) (PrC (keyD (keyF n f) (4 + 2 * i0))) PrC.kp q n cap f hf w hV.m hV.r hB hnc hcm
    (fun g c w' h1 h2 h3 b => (newCbc5_any (keyF n f) i0 hi (keyF_lt hf) g 0 c w' h3 (hV.r.below b) (hV.s.below b) (hV.d.below b) h2 h1).mono fun e w2 ⟨cb, F, e1, e2, e3, e4⟩ => ⟨cb, e1, ⟨_, _, _, e3⟩, e4⟩)
    (fun g c w' h1 h2 h3 b => by
      have e : 16 + 8 * i0 = 4 * (4 + 2 * i0) := by omega
      rw [e] at h1 h2 ⊢
      exact Ref3.newK5_any i0 hi g 0 c (keyF n f) (keyF_lt hf) w' h1 h2 h3 (hV.m.below b) (hV.g.below b))
theorem madeC6 : Calls Tryz.prog 11 #[pickV ((1 + 17 * i0 + 6 : Nat) : Int) q n cap] w fun e w' => ∃ cb rb, e = .returned (.tuple #[.pointer (some ⟨cb, 0, none⟩), .pointer (some ⟨rb, 0, none⟩), .bool true]) ∧ PrC (keyD (keyF n f) (4 + 2 * i0)) cb w' ∧ Below w.heap.size w w' :=
  made_any i0 6 hi (by decide) (16 + 8 * i0) (by unfold szT; rw [if_neg (by decide)]; simp [moT]) (by omega) (PrC (keyD (keyF n f) (4 + 2 * i0))) PrC.kp q n cap f hf w hV.m hV.r hB hnc hcm
    (fun g c w' h1 h2 h3 b => (newCbc6_any (keyF n f) i0 hi (keyF_lt hf) g 0 c w' h3 (hV.r.below b) (hV.s.below b) (hV.d.below b) h2 h1).mono fun e w2 ⟨cb, F, e1, e2, e3, e4⟩ => ⟨cb, e1, ⟨_, _, _, e3⟩, e4⟩)
    (fun g c w' h1 h2 h3 b => by
      have e : 16 + 8 * i0 = 4 * (4 + 2 * i0) := by omega
      rw [e] at h1 h2 ⊢
      exact Ref3.newK6_any i0 hi g 0 c (keyF n f) (keyF_lt hf) w' h1 h2 h3 (hV.m.below b) (hV.g.below b))
theorem madeC7 : Calls Tryz.prog 11 #[pickV ((1 + 17 * i0 + 7 : Nat) : Int) q n cap] w fun e w' => ∃ cb rb, e = .returned (.tuple #[.pointer (some ⟨cb, 0, none⟩), .pointer (some ⟨rb, 0, none⟩), .bool true]) ∧ PrC (keyD (keyF n f) (4 + 2 * i0)) cb w' ∧ Below w.heap.size w w' :=
  made_any i0 7 hi (by decide) (16 + 8 * i0) (by unfold szT; rw [if_neg (by decide)]; simp [moT]) (by omega) (PrC (keyD (keyF n f) (4 + 2 * i0))) PrC.kp q n cap f hf w hV.m hV.r hB hnc hcm
    (fun g c w' h1 h2 h3 b => (newCbc7_any (keyF n f) i0 hi (keyF_lt hf) g 0 c w' h3 (hV.r.below b) (hV.s.below b) (hV.d.below b) h2 h1).mono fun e w2 ⟨cb, F, e1, e2, e3, e4⟩ => ⟨cb, e1, ⟨_, _, _, e3⟩, e4⟩)
    (fun g c w' h1 h2 h3 b => by
      have e : 16 + 8 * i0 = 4 * (4 + 2 * i0) := by omega
      rw [e] at h1 h2 ⊢
      exact Ref3.newK7_any i0 hi g 0 c (keyF n f) (keyF_lt hf) w' h1 h2 h3 (hV.m.below b) (hV.g.below b))
end
end Go.Proofs.YtmifebcaifbmoaaGreatDoor.G
end
