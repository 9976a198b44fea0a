/- Parts of the proof of TweakBlocks. MadeK: cofferlaw03: Pick.made of XTS, ECB, CBC. SealB: ECB, XTS, LRW told alike: each block hangs on itself and its place; the plain law of TweakBlocks. -/
import Derived.Test.YtmifebcaifbmoaaGreatDoorL00
import Derived.Test.YtmifebcaifbmoaaGreatDoorL37
import Derived.Test.YtmifebcaifbmoaaGreatDoorL41
/- MadeK -/
section
namespace Go.Proofs.YtmifebcaifbmoaaGreatDoor.G
open Go.RowKit Go.Lib Go.Proofs.YtmifebcaifbmoaaGreatDoor.Blk Go.Proofs.YtmifebcaifbmoaaGreatDoor.Aes Go.Proofs.YtmifebcaifbmoaaGreatDoor.Tab Go.Proofs.YtmifebcaifbmoaaGreatDoor.Byts Go.Proofs.YtmifebcaifbmoaaGreatDoor.Push Go.Proofs.YtmifebcaifbmoaaGreatDoor.Tw

/-- all that a made cipher asks of the variables -/
structure Vars (w : World) : Prop where
  m : Modes w
  s : Sizes w
  r : RconAt w
  d : DgW w
  g : Ref3.RgW w
theorem Vars.below {w w' : World} (h : Vars w) (b : Below w.heap.size w w') : Vars w' := ⟨h.m.below b, h.s.below b, h.r.below b, h.d.below b, h.g.below b⟩
/-- a cipher of XTS -/
def PrX (E : Nat → Nat) (cb : Nat) (w : World) : Prop := ∃ k iv O, ∃ T : Nat → Nat, CiphG k cb true iv (fun s n f => xtsF E false (T s) n f) O w
theorem PrX.kp {E : Nat → Nat} (cb : Nat) (w1 w2 : World) (h : PrX E cb w1) (q : Kp w1 w2) : PrX E cb w2 := by
  obtain ⟨k, iv, O, T, h⟩ := h
  exact ⟨k, iv, O, T, h.kp q⟩
/-- a cipher of CBC, opened -/
def PrC (D : Nat → Nat) (cb : Nat) (w : World) : Prop := ∃ k iv S, CiphG k cb false iv S (fun s n f => cbcO D (iv s n) n f) w
theorem PrC.kp {D : Nat → Nat} (cb : Nat) (w1 w2 : World) (h : PrC D cb w1) (q : Kp w1 w2) : PrC D cb w2 := by
  obtain ⟨k, iv, S, h⟩ := h
  exact ⟨k, iv, S, h.kp q⟩
/-- a cipher of ECB -/
def PrE (E : Nat → Nat) (cb : Nat) (w : World) : Prop := ∃ iv O, CiphG 0 cb false iv (fun _ n f => blkF (fun _ b => E b) f (n / 16)) O w
theorem PrE.kp {E : Nat → Nat} (cb : Nat) (w1 w2 : World) (h : PrE E cb w1) (q : Kp w1 w2) : PrE E cb w2 := by
  obtain ⟨iv, S, h⟩ := h
  exact ⟨iv, S, h.kp q⟩
section
variable (i0 : Nat) (hi : i0 < 3) (q : Option Addr) (n cap : Nat) (f : Nat → Nat) (hf : ∀ j, f j < 256) (w : World) (hV : Vars w) (hB : BL w q n f) (hnc : n ≤ cap) (hcm : cap ≤ 9223372036854775807)
include hi hf hV hB hnc hcm
theorem madeX10 : Calls Tryz.prog 11 #[pickV ((1 + 17 * i0 + 10 : Nat) : Int) q n cap] w fun e w' => ∃ cb rb, e = .returned (.tuple #[.pointer (some ⟨cb, 0, none⟩), .pointer (some ⟨rb, 0, none⟩), .bool true]) ∧ PrX (keyE (keyF n f) (4 + 2 * i0)) cb w' ∧ Below w.heap.size w w' :=
  made_any i0 10 hi (by decide) (2 * (16 + 8 * i0)) (by unfold szT; rw [if_pos (by decide)]; omega) (by omega) (PrX (keyE (keyF n f) (4 + 2 * i0))) PrX.kp q n cap f hf w hV.m hV.r hB hnc hcm
    (fun g c w' h1 h2 h3 b => (newXts10_any (keyF n f) i0 hi (keyF_lt hf) g 0 c w' h3 (hV.r.below b) (hV.s.below b) (hV.d.below b) h2 h1).mono fun e w2 ⟨cb, F, e1, e2, e3, e4⟩ => ⟨cb, e1, ⟨_, _, _, _, e3⟩, e4⟩)
    (fun g c w' h1 h2 h3 b => by
      have e : 2 * (16 + 8 * i0) = 8 * (4 + 2 * i0) := by omega
      rw [e] at h1 h2 ⊢
      exact Ref3.newK10_any i0 hi g 0 c (keyF n f) (keyF_lt hf) w' h1 h2 h3 (hV.m.below b) (hV.g.below b))
theorem madeX11 : Calls Tryz.prog 11 #[pickV ((1 + 17 * i0 + 11 : Nat) : Int) q n cap] w fun e w' => ∃ cb rb, e = .returned (.tuple #[.pointer (some ⟨cb, 0, none⟩), .pointer (some ⟨rb, 0, none⟩), .bool true]) ∧ PrX (keyE (keyF n f) (4 + 2 * i0)) cb w' ∧ Below w.heap.size w w' :=
  made_any i0 11 hi (by decide) (2 * (16 + 8 * i0)) (by unfold szT; rw [if_pos (by decide)]; omega) (by omega) (PrX (keyE (keyF n f) (4 + 2 * i0))) PrX.kp q n cap f hf w hV.m hV.r hB hnc hcm
    (fun g c w' h1 h2 h3 b => (newXts11_any (keyF n f) i0 hi (keyF_lt hf) g 0 c w' h3 (hV.r.below b) (hV.s.below b) (hV.d.below b) h2 h1).mono fun e w2 ⟨cb, F, e1, e2, e3, e4⟩ => ⟨cb, e1, ⟨_, _, _, _, e3⟩, e4⟩)
    (fun g c w' h1 h2 h3 b => by
      have e : 2 * (16 + 8 * i0) = 8 * (4 + 2 * i0) := by omega
      rw [e] at h1 h2 ⊢
      exact Ref3.newK11_any i0 hi g 0 c (keyF n f) (keyF_lt hf) w' h1 h2 h3 (hV.m.below b) (hV.g.below b))
theorem madeX12 : Calls Tryz.prog 11 #[pickV ((1 + 17 * i0 + 12 : Nat) : Int) q n cap] w fun e w' => ∃ cb rb, e = .returned (.tuple #[.pointer (some ⟨cb, 0, none⟩), .pointer (some ⟨rb, 0, none⟩), .bool true]) ∧ PrX (keyE (keyF n f) (4 + 2 * i0)) cb w' ∧ Below w.heap.size w w' :=
  made_any i0 12 hi (by decide) (2 * (16 + 8 * i0)) (by unfold szT; rw [if_pos (by decide)]; omega) (by omega) (PrX (keyE (keyF n f) (4 + 2 * i0))) PrX.kp q n cap f hf w hV.m hV.r hB hnc hcm
    (fun g c w' h1 h2 h3 b => (newXts12_any (keyF n f) i0 hi (keyF_lt hf) g 0 c w' h3 (hV.r.below b) (hV.s.below b) (hV.d.below b) h2 h1).mono fun e w2 ⟨cb, F, e1, e2, e3, e4⟩ => ⟨cb, e1, ⟨_, _, _, _, e3⟩, e4⟩)
    (fun g c w' h1 h2 h3 b => by
      have e : 2 * (16 + 8 * i0) = 8 * (4 + 2 * i0) := by omega
      rw [e] at h1 h2 ⊢
      exact Ref3.newK12_any i0 hi g 0 c (keyF n f) (keyF_lt hf) w' h1 h2 h3 (hV.m.below b) (hV.g.below b))
theorem madeX13 : Calls Tryz.prog 11 #[pickV ((1 + 17 * i0 + 13 : Nat) : Int) q n cap] w fun e w' => ∃ cb rb, e = .returned (.tuple #[.pointer (some ⟨cb, 0, none⟩), .pointer (some ⟨rb, 0, none⟩), .bool true]) ∧ PrX (keyE (keyF n f) (4 + 2 * i0)) cb w' ∧ Below w.heap.size w w' :=
  made_any i0 13 hi (by decide) (2 * (16 + 8 * i0)) (by unfold szT; rw [if_pos (by decide)]; omega) (by omega) (PrX (keyE (keyF n f) (4 + 2 * i0))) PrX.kp q n cap f hf w hV.m hV.r hB hnc hcm
    (fun g c w' h1 h2 h3 b => (newXts13_any (keyF n f) i0 hi (keyF_lt hf) g 0 c w' h3 (hV.r.below b) (hV.s.below b) (hV.d.below b) h2 h1).mono fun e w2 ⟨cb, F, e1, e2, e3, e4⟩ => ⟨cb, e1, ⟨_, _, _, _, e3⟩, e4⟩)
    (fun g c w' h1 h2 h3 b => by
      have e : 2 * (16 + 8 * i0) = 8 * (4 + 2 * i0) := by omega
      rw [e] at h1 h2 ⊢
      exact Ref3.newK13_any i0 hi g 0 c (keyF n f) (keyF_lt hf) w' h1 h2 h3 (hV.m.below b) (hV.g.below b))
theorem madeE0 : Calls Tryz.prog 11 #[pickV ((1 + 17 * i0 + 0 : Nat) : Int) q n cap] w fun e w' => ∃ cb rb, e = .returned (.tuple #[.pointer (some ⟨cb, 0, none⟩), .pointer (some ⟨rb, 0, none⟩), .bool true]) ∧ PrE (keyE (keyF n f) (4 + 2 * i0)) cb w' ∧ Below w.heap.size w w' :=
  made_any i0 0 hi (by decide) (16 + 8 * i0) (by unfold szT; rw [if_neg (by decide)]; simp [moT]) (by omega) (PrE (keyE (keyF n f) (4 + 2 * i0))) PrE.kp q n cap f hf w hV.m hV.r hB hnc hcm
    (fun g c w' h1 h2 h3 b => (newEcb_any (keyF n f) i0 hi (keyF_lt hf) g 0 c w' h3 (hV.r.below b) (hV.s.below b) (hV.d.below b) h2 h1).mono fun e w2 ⟨cb, F, e1, e2, e3, e4⟩ => ⟨cb, e1, ⟨_, _, e3⟩, e4⟩)
    (fun g c w' h1 h2 h3 b => by
      have e : 16 + 8 * i0 = 4 * (4 + 2 * i0) := by omega
      rw [e] at h1 h2 ⊢
      exact Ref3.newK0_any i0 hi g 0 c (keyF n f) (keyF_lt hf) w' h1 h2 h3 (hV.m.below b) (hV.g.below b))
end
end Go.Proofs.YtmifebcaifbmoaaGreatDoor.G
end

/- SealB -/
section
namespace Go.Proofs.YtmifebcaifbmoaaGreatDoor.G
open Go.RowKit Go.Lib Go.Proofs.YtmifebcaifbmoaaGreatDoor.Blk Go.Proofs.YtmifebcaifbmoaaGreatDoor.Aes Go.Proofs.YtmifebcaifbmoaaGreatDoor.Rj Go.Proofs.YtmifebcaifbmoaaGreatDoor.Byts Go.Proofs.YtmifebcaifbmoaaGreatDoor.Poly Go.Proofs.YtmifebcaifbmoaaGreatDoor.Field Go.Proofs.YtmifebcaifbmoaaGreatDoor.Tab Go.Proofs.YtmifebcaifbmoaaGreatDoor.Tw

/-- a cipher that seals block j of n bytes of sector s between two additions of t s n j -/
def PrS (E : Nat → Nat) (cb : Nat) (w : World) : Prop := ∃ t : Nat → Nat → Nat → Nat, ∀ w', Below w.heap.size w w' → ∀ (s : Nat), s < 2 ^ 64 → ∀ (b off n cap : Nat), n % 16 = 0 → 16 ≤ n → n ≤ 4096 → ∀ f : Nat → Nat, (∀ i, f i < 256) → BL w' (some ⟨b, off, none⟩) n f →
  Calls Tryz.prog 14 #[.pointer (some ⟨cb, 0, none⟩), .int .u64 s, .slice (some ⟨b, off, none⟩) n cap] w' fun e w2 => ∃ g, e = .returned (.tuple #[.slice (some ⟨g, 0, none⟩) n n, .int .i64 0]) ∧ Sec w2 g n (blkF (fun j x => msk E (t s n j) x) f (n / 16)) ∧ w'.heap.size ≤ g ∧ Below w'.heap.size w' w2
theorem PrS.below {E : Nat → Nat} {cb : Nat} {w w' : World} (h : PrS E cb w) (hb : Below w.heap.size w w') : PrS E cb w' := by
  obtain ⟨t, h⟩ := h
  exact ⟨t, fun w2 hb2 => h w2 (hb.trans (hb2.mono hb.size))⟩
theorem PrS.ofX {E : Nat → Nat} {cb : Nat} {w : World} (hrc : 2 < w.heap.size) (h : PrX E cb w) : PrS E cb w := by
  obtain ⟨k, iv, O, T, h⟩ := h
  refine ⟨fun s _ j => dblK (T s) j, fun w' hb s hs b off n cap h16 h1 h2 f hf hB => ?_⟩
  refine (seal_any w' (h.kp (Kp.of_below hb)) (Nat.lt_of_lt_of_le hrc hb.size) s hs b off n cap (.inl rfl) h1 h2 f hf hB).mono ?_
  rintro e w2 ⟨g, e1, e2, e3, e4⟩
  refine ⟨g, e1, e2.congr fun i _ => ?_, e3, e4⟩
  show xtsF E false (T s) n f i = _
  unfold xtsF
  rw [if_pos h16]
  rfl
theorem PrS.ofE {E : Nat → Nat} {cb : Nat} {w : World} (hrc : 2 < w.heap.size) (h : PrE E cb w) : PrS E cb w := by
  obtain ⟨iv, O, h⟩ := h
  refine ⟨fun _ _ _ => 0, fun w' hb s hs b off n cap h16 h1 h2 f hf hB => ?_⟩
  refine (seal_any w' (h.kp (Kp.of_below hb)) (Nat.lt_of_lt_of_le hrc hb.size) s hs b off n cap (.inr h16) h1 h2 f hf hB).mono ?_
  rintro e w2 ⟨g, e1, e2, e3, e4⟩
  refine ⟨g, e1, e2.congr fun i _ => ?_, e3, e4⟩
  exact blkF_congr (fun j _ => by unfold msk; rw [Nat.xor_zero, Nat.xor_zero]) i
theorem lrwB_msk (E : Nat → Nat) (F s n : Nat) (f : Nat → Nat) (j T : Nat) (hT : T = tw F (aN s n j)) : lrwB E F s n f j = msk E T (blkN f j) := by
  unfold lrwB msk
  rw [hT]
theorem sealF_blk (key : Nat → Nat) (nk s n : Nat) (f : Nat → Nat) (i : Nat) (T : Nat → Nat) (hT : ∀ j, T j = tw (fieldN key nk) (aN s n j)) : sealF key nk s n f i = blkF (fun j x => msk (keyE key nk) (T j) x) f (n / 16) i := by
  unfold sealF lrwF blkF
  by_cases h : i / 16 < n / 16
  · rw [if_pos h, if_pos h, lrwB_msk _ _ _ _ _ _ (T (i / 16)) (hT _)]
  · rw [if_neg h, if_neg h]
theorem PrS.ofL {key : Nat → Nat} {nk cb : Nat} {w : World} (hk : ∀ i, key i < 256) (h : CiphLrw key nk cb w) : PrS (keyE key nk) cb w := by
  refine ⟨fun s n j => tw (fieldN key nk) (aN s n j), fun w' hb s hs b off n cap h16 h1 h2 f hf hB => ?_⟩
  refine (sealLrw_any key nk cb (fun _ _ => hk _) s hs b off n cap h16 h1 h2 f hf w' (h.below hb) hB).mono ?_
  rintro e w2 ⟨g, e1, e2, e3, e4⟩
  exact ⟨g, e1, e2.congr fun i _ => sealF_blk key nk s n f i _ fun _ => rfl, e3, e4⟩

theorem keyE_low (key : Nat → Nat) (nk : Nat) {x y : Nat} (h : ∀ q, q < 16 → byt x q = byt y q) : keyE key nk x = keyE key nk y := by
  unfold keyE encN
  exact lowN_congr fun i hi => encB_congr h (fun _ _ _ _ => rfl) i hi
/-- what a block is sealed as tells the block -/
theorem msk_injE {E : Nat → Nat} (hL : ∀ x, E x < 2 ^ 128) (hW : ∀ x y, (∀ q, q < 16 → byt x q = byt y q) → E x = E y) (hI : ∀ a b, a < 2 ^ 128 → b < 2 ^ 128 → E a = E b → a = b) (t a b : Nat) (ha : a < 2 ^ 128) (hb : b < 2 ^ 128) (h : ∀ i, i < 16 → byt (msk E t a) i = byt (msk E t b) i) : a = b := by
  have can : ∀ x y z : Nat, x ^^^ z = y ^^^ z → x = y := fun x y z hz => by
    have h2 := congrArg (fun q => q ^^^ z) hz
    simpa only [Nat.xor_assoc, Nat.xor_self, Nat.xor_zero] using h2
  have e : E (a ^^^ t) = E (b ^^^ t) := num_ext (hL _) (hL _) fun i hi => by
    have h2 := h i hi
    unfold msk at h2
    rw [Poly.byt_xor, Poly.byt_xor] at h2
    exact can _ _ _ h2
  obtain ⟨t2, ht, ht2⟩ : ∃ t2, t2 < 2 ^ 128 ∧ ∀ i, i < 16 → byt t2 i = byt t i := ⟨t % 2 ^ 128, Nat.mod_lt _ (by decide), fun i hi => byt_mod128 t i hi⟩
  have f : ∀ x, E (x ^^^ t) = E (x ^^^ t2) := fun x => hW _ _ fun q hq => by rw [Poly.byt_xor, Poly.byt_xor, ht2 q hq]
  rw [f a, f b] at e
  exact can _ _ _ (hI _ _ (Nat.xor_lt_two_pow ha ht) (Nat.xor_lt_two_pow hb ht) e)
theorem msk_inj {key : Nat → Nat} {nk : Nat} (hk : Byt key (4 * nk)) (h1 : 1 ≤ nk) (t a b : Nat) (ha : a < 2 ^ 128) (hb : b < 2 ^ 128) (h : ∀ i, i < 16 → byt (msk (keyE key nk) t a) i = byt (msk (keyE key nk) t b) i) : a = b :=
  msk_injE (keyE_lt hk h1) (fun _ _ => keyE_low key nk) (fun _ _ => keyE_inj hk h1) t a b ha hb h
section
variable {B : Nat → Nat → Nat} {n : Nat} {f : Nat → Nat} {j x : Nat}
theorem put_ne {i : Nat} (h : i ≠ j) : blkN (putF f j x) i = blkN f i := lowN_congr fun q hq => by
  unfold putF
  rw [if_neg (by omega)]
theorem blkF_at {p : Nat} (h : p / 16 < n / 16) : blkF B f (n / 16) p = byt (B (p / 16) (blkN f (p / 16))) (p % 16) := by
  unfold blkF
  rw [if_pos h]
theorem blocks_else {p : Nat} (h : p / 16 < n / 16) (h1 : p / 16 ≠ j) : blkF B f (n / 16) p = blkF B (putF f j x) (n / 16) p := by
  rw [blkF_at h, blkF_at h, put_ne h1]
theorem blocks_own (hf : ∀ i, f i < 256) (hj : j < n / 16) (hI : ∀ a b, a < 2 ^ 128 → b < 2 ^ 128 → (∀ i, i < 16 → byt (B j a) i = byt (B j b) i) → a = b) :
    (∀ p, p < n → p / 16 = j → f p = putF f j x p) ↔ ∀ q, q < 16 → blkF B f (n / 16) (16 * j + q) = blkF B (putF f j x) (n / 16) (16 * j + q) := by
  have at_ : ∀ q, q < 16 → ∀ g, blkF B g (n / 16) (16 * j + q) = byt (B j (blkN g j)) q := fun q hq g => by
    rw [blkF_at (by omega), show (16 * j + q) / 16 = j by omega, show (16 * j + q) % 16 = q by omega]
  have hz := putF_lt hf j x
  constructor
  · intro h q hq
    have e : blkN (putF f j x) j = blkN f j := lowN_congr fun i hi => (h (16 * j + i) (by omega) (by omega)).symm
    rw [at_ q hq, at_ q hq, e]
  · intro h p hp hpj
    have e := hI _ _ (blkN_lt hf j) (blkN_lt hz j) fun q hq => by rw [← at_ q hq, ← at_ q hq]; exact h q hq
    have e2 := byt_blk hf j (p % 16) (Nat.mod_lt _ (by decide))
    have e3 := byt_blk hz j (p % 16) (Nat.mod_lt _ (by decide))
    rw [show 16 * j + p % 16 = p by omega] at e2 e3
    rw [← e2, ← e3, e]
end
end Go.Proofs.YtmifebcaifbmoaaGreatDoor.G
end
