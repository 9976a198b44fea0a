/- Parts of the proof of TweakBlocks. Knd: tweak.New of ECB, of CBC, of XTS: ciphers told by what they do. -/
import Derived.Test.YtmifebcaifbmoaaGreatDoorL00
import Derived.Test.YtmifebcaifbmoaaGreatDoorL35
/- Knd -/
section
namespace Go.Proofs.YtmifebcaifbmoaaGreatDoor.G
open Go.RowKit Go.Lib Go.Proofs.YtmifebcaifbmoaaGreatDoor.Blk Go.Proofs.YtmifebcaifbmoaaGreatDoor.Aes Go.Proofs.YtmifebcaifbmoaaGreatDoor.Rj Go.Proofs.YtmifebcaifbmoaaGreatDoor.Poly Go.Proofs.YtmifebcaifbmoaaGreatDoor.Field Go.Proofs.YtmifebcaifbmoaaGreatDoor.Tab Go.Proofs.YtmifebcaifbmoaaGreatDoor.Tw Go.Proofs.YtmifebcaifbmoaaGreatDoor.RS Go.Proofs.YtmifebcaifbmoaaGreatDoor.Push

theorem coreZ_fl (spec : ByteArray) (n : Int) : ∀ i, i < 16 → (coreZ spec n)[4 + i]? = some (.int .u8 0)
  | 0, _ | 1, _ | 2, _ | 3, _ | 4, _ | 5, _ | 6, _ | 7, _ | 8, _ | 9, _ | 10, _ | 11, _ | 12, _ | 13, _ | 14, _ | 15, _ => rfl
  | k + 16, hk => absurd hk (by omega)
theorem coreZ_wh (spec : ByteArray) (n : Int) : ∀ i, i < 16 → (coreZ spec n)[20 + i]? = some (.int .u8 0)
  | 0, _ | 1, _ | 2, _ | 3, _ | 4, _ | 5, _ | 6, _ | 7, _ | 8, _ | 9, _ | 10, _ | 11, _ | 12, _ | 13, _ | 14, _ | 15, _ => rfl
  | k + 16, hk => absurd hk (by omega)
section
variable (key : Nat → Nat) (nk : Nat) (hnk : nk = 4 ∨ nk = 6 ∨ nk = 8) (spec : ByteArray) (g off n cap : Nat) (w : World) (hc : KeyB w g off n key) (hcap : n ≤ cap) (hcm : cap ≤ 9223372036854775807) (hR : RconAt w)
include hnk hc hcap hcm hR
theorem partsOne (hkey : Byt key (4 * nk)) (hn : n = 4 * nk) : PartsAt 64 (fun _ => []) spec g off n cap (keyE key nk) (keyD key nk) (fun _ _ => 0) false (fun _ _ => 0) (fun _ _ => 0) w := fun xb d w' hxb b hx hd => by
  subst hn
  refine (onePart_any key nk hnk hkey xb g off cap _ w' hx rfl ⟨_, rfl⟩ (hc.below b) hcap hcm (hR.below b)).mono fun e w2 ⟨h1, ⟨v, h2, h3⟩, h4⟩ => ⟨h1, ⟨fun _ => 0, fun _ => Nat.zero_lt_succ _, _, h2, ?_⟩, h4⟩
  exact ⟨rfl, ⟨_, rfl⟩, rfl, ⟨v, rfl, doK_code h3, doK_decode h3⟩, (fun t => by cases t), fun i hi => by rw [Array.getElem?_setIfInBounds_ne (by omega)]; exact coreZ_fl _ _ i hi, fun i hi => by rw [Array.getElem?_setIfInBounds_ne (by omega)]; exact coreZ_wh _ _ i hi⟩
theorem partsTwo (hkey : Byt key (8 * nk)) (hn : n = 8 * nk) : PartsAt 75 (fun _ => []) spec g off n cap (keyE key nk) (keyD key nk) (fun _ => keyE (fun i => key (4 * nk + i)) nk) true (fun _ _ => 0) (fun _ _ => 0) w := fun xb d w' hxb b hx hd => by
  subst hn
  have hgl : g < w.heap.size := Frame.block_lt (hc 0 (by omega))
  have hrl : 2 < w.heap.size := Frame.block_lt (hR 0 (by decide))
  refine (twoParts_any key nk hnk hkey xb g off cap _ w' hx rfl ⟨_, rfl⟩ (hc.below b) (by omega) hcap hcm (hR.below b) (by omega)).mono fun e w2 ⟨h1, ⟨v, z, h2, h3, h3'⟩, h4⟩ => ⟨h1, ⟨fun _ => 0, fun _ => Nat.zero_lt_succ _, _, h2, ?_⟩, h4⟩
  exact ⟨rfl, ⟨_, rfl⟩, rfl, ⟨v, rfl, doK_code h3, doK_decode h3⟩, fun _ => ⟨z, rfl, doK_code h3'⟩, fun i hi => by rw [Array.getElem?_setIfInBounds_ne (by omega), Array.getElem?_setIfInBounds_ne (by omega)]; exact coreZ_fl _ _ i hi, fun i hi => by rw [Array.getElem?_setIfInBounds_ne (by omega), Array.getElem?_setIfInBounds_ne (by omega)]; exact coreZ_wh _ _ i hi⟩
theorem partsDig2 (hD : DgW w) (hkey : Byt key (8 * nk)) (hn : n = 8 * nk) : PartsAt 81 (fun _ => []) spec g off n cap (keyE key nk) (keyD key nk) (fun _ => keyE (fun i => key (4 * nk + i)) nk) true (fun F => F) (fun F i => F (16 + i)) w := fun xb d w' hxb b hx hd => by
  have hgl : g < w.heap.size := Frame.block_lt (hc 0 (by omega))
  have hrl : 2 < w.heap.size := Frame.block_lt (hR 0 (by decide))
  have h1l : 7 < w.heap.size := by obtain ⟨z, hz⟩ := hD.cu 0 (by decide); exact Frame.block_lt hz
  have h2l : 6 < w.heap.size := by obtain ⟨z, hz⟩ := hD.sq 0 (by decide); exact Frame.block_lt hz
  refine (digestTwo_any key nk hnk hkey xb g off cap n _ w' hx rfl ⟨_, rfl⟩ (hc.below b) (by omega) hcap hcm (hR.below b) (by omega) (hD.below b) (by omega) (by omega) hn).mono fun e w2 ⟨h1, ⟨v, z, F, hF, h2, h3, h3'⟩, h4⟩ => ⟨h1, ⟨F, hF, _, h2, ?_⟩, h4⟩
  have hs : (((coreZ spec (n : Nat)).setIfInBounds 2 v).setIfInBounds 3 z).size = 37 := rfl
  have p1 := fun i => patch_get (((coreZ spec (n : Nat)).setIfInBounds 2 v).setIfInBounds 3 z) 4 (Push.bl F 16) (by rw [Push.bl_len, hs]; decide) i
  have hs2 : (Tree.patch (((coreZ spec (n : Nat)).setIfInBounds 2 v).setIfInBounds 3 z) 4 (Push.bl F 16)).size = 37 := by rw [Tree.patch_size _ _ _ (by rw [Push.bl_len, hs]; decide)]; exact hs
  have p2 := fun i => patch_get (Tree.patch (((coreZ spec (n : Nat)).setIfInBounds 2 v).setIfInBounds 3 z) 4 (Push.bl F 16)) 20 (Push.bl (fun i => F (16 + i)) 16) (by rw [Push.bl_len, hs2]; decide) i
  simp only [Push.bl_len] at p1 p2
  refine ⟨by rw [Tree.patch_size _ _ _ (by rw [Push.bl_len, hs2]; decide)]; exact hs2, ⟨spec, ?_⟩, ?_, ⟨v, ?_, doK_code h3, doK_decode h3⟩, fun _ => ⟨z, ?_, doK_code h3'⟩, fun i hi => ?_, fun i hi => ?_⟩
  · rw [p2, if_neg (by decide), p1, if_neg (by decide)]; rfl
  · rw [p2, if_neg (by decide), p1, if_neg (by decide)]; rfl
  · rw [p2, if_neg (by decide), p1, if_neg (by decide)]; rfl
  · rw [p2, if_neg (by decide), p1, if_neg (by decide)]; rfl
  · rw [p2, if_neg (by omega), p1, if_pos (by omega), Nat.add_sub_cancel_left, Push.bl_get _ _ _ hi]
  · rw [p2, if_pos (by omega), Nat.add_sub_cancel_left, Push.bl_get _ _ _ hi]
end
theorem starts10 (E D A : Nat → Nat) (two : Bool) (fl wh : Nat → Nat) : StartsAt 10 E D A two fl wh (fun s _ => s % 4294967296) := fun sf e xb cs w2 hx hk hR => by
  cases e
  intro s n w' hs hn q
  exact fromPlain_any xb s n hs w'
theorem starts11 (E D A : Nat → Nat) (two : Bool) (fl wh : Nat → Nat) : StartsAt 11 E D A two fl wh (fun s _ => s) := fun sf e xb cs w2 hx hk hR => by
  cases e
  intro s n w' hs hn q
  exact fromPlain64_any xb s n hs w'
theorem starts12 (E D A : Nat → Nat) (two : Bool) (fl wh : Nat → Nat) : StartsAt 12 E D A two fl wh (fun s _ => revN s) := fun sf e xb cs w2 hx hk hR => by
  cases e
  intro s n w' hs hn q
  exact fromPlain64be_any xb s n hs w'
theorem starts13 (E D A : Nat → Nat) (two : Bool) (fl wh : Nat → Nat) (hfl : ∀ i, fl i < 256) (hwh : ∀ i, wh i < 256) : StartsAt 13 E D A two fl wh (fun s _ => keyE (sumF fl wh) 8 s) := fun sf e xb cs w2 hx hk hR => by
  cases e
  intro s n w' hs hn q
  exact fromDigest_any xb s n hs fl wh hfl hwh w' (fun j hj => by rw [cell_of_row w' _ _ _ _ _ (q.cells hx (by decide))]; exact hk.fl j hj) (fun j hj => by rw [cell_of_row w' _ _ _ _ _ (q.cells hx (by decide))]; exact hk.wh j hj) (RconAt.kp hR q)
theorem sfOk10 : SfOk 10 := fun sf e => by
  cases e
  exact ⟨_, Tryz.func67, by kernel_rfl, rfl⟩
theorem sfOk11 : SfOk 11 := fun sf e => by
  cases e
  exact ⟨_, Tryz.func68, by kernel_rfl, rfl⟩
theorem sfOk12 : SfOk 12 := fun sf e => by
  cases e
  exact ⟨_, Tryz.func69, by kernel_rfl, rfl⟩
theorem sfOk13 : SfOk 13 := fun sf e => by
  cases e
  exact ⟨_, Tryz.func80, by kernel_rfl, rfl⟩
section
variable (key : Nat → Nat) (i0 : Nat) (hi : i0 < 3) (hkey : ∀ i, key i < 256) (g off cap : Nat) (w : World) (hcm : cap ≤ 9223372036854775807) (hR : RconAt w) (hS : Sizes w) (hD : DgW w)
include hi hkey hcm hR hS hD
/-- a cipher of ECB -/
theorem newEcb_any (hcap : 16 + 8 * i0 ≤ cap) (hc : KeyB w g off (16 + 8 * i0) key) :
    Calls Tryz.prog 23 #[.string (pre i0 ++ nm 0), .slice (some ⟨g, off, none⟩) (16 + 8 * i0) cap] w fun e w' => ∃ (cb : Nat) (F : Nat → Nat), e = .returned (.tuple #[.pointer (some ⟨cb, 0, none⟩), .int .i64 0]) ∧ (∀ i, F i < 256) ∧ CiphG 0 cb false (fun _ _ => 0) (fun _ n f => blkF (fun _ b => keyE key (4 + 2 * i0) b) f (n / 16)) (fun _ n f => blkF (fun _ b => keyD key (4 + 2 * i0) b) f (n / 16)) w' ∧ Below w.heap.size w w' :=
  have _ := hD
  new_any i0 0 hi (by decide) (16 + 8 * i0) (by unfold szT; rw [if_neg (by decide)]; simp [moT]) (by omega) false (fun _ => rfl) 64 63 (fun _ => []) (fun _ => rfl) (fun _ => rfl) ⟨_, Tryz.func64, by kernel_rfl, rfl⟩ ⟨_, Tryz.func63, by kernel_rfl, rfl⟩
    (keyE key (4 + 2 * i0)) (keyD key (4 + 2 * i0)) (fun _ _ => 0) false (fun _ _ => 0) (fun _ _ => 0) (fun _ _ _ => 0) (fun _ _ n f => blkF (fun _ b => keyE key (4 + 2 * i0) b) f (n / 16)) (fun _ _ n f => blkF (fun _ b => keyD key (4 + 2 * i0) b) f (n / 16)) g off cap w hcap hR hS
    (partsOne key (4 + 2 * i0) (by omega) _ g off _ cap w hc hcap hcm hR (fun i _ => hkey i) (by omega)) (fun _ _ => buildEcb _ _ _ _ _ _) (fun _ _ sf e => by cases e)
theorem newXts10_any (hcap : 2 * (16 + 8 * i0) ≤ cap) (hc : KeyB w g off (2 * (16 + 8 * i0)) key) :
    Calls Tryz.prog 23 #[.string (pre i0 ++ nm 10), .slice (some ⟨g, off, none⟩) (2 * (16 + 8 * i0)) cap] w fun e w' => ∃ (cb : Nat) (F : Nat → Nat), e = .returned (.tuple #[.pointer (some ⟨cb, 0, none⟩), .int .i64 0]) ∧ (∀ i, F i < 256) ∧ CiphG 10 cb true ((fun _ s _ => s % 4294967296 : (Nat → Nat) → Nat → Nat → Nat) F) (fun s n f => xtsF (keyE key (4 + 2 * i0)) false ((keyE (fun i => key (4 * (4 + 2 * i0) + i)) (4 + 2 * i0)) ((fun _ s _ => s % 4294967296 : (Nat → Nat) → Nat → Nat → Nat) F s n)) n f) (fun s n f => xtsF (keyD key (4 + 2 * i0)) true ((keyE (fun i => key (4 * (4 + 2 * i0) + i)) (4 + 2 * i0)) ((fun _ s _ => s % 4294967296 : (Nat → Nat) → Nat → Nat → Nat) F s n)) n f) w' ∧ Below w.heap.size w w' :=
  have _ := hD
  new_any i0 10 hi (by decide) (2 * (16 + 8 * i0)) (by unfold szT; rw [if_pos (by decide)]; omega) (by omega) true (fun _ => rfl) 75 79 (fun _ => []) (fun _ => rfl) (fun _ => rfl) ⟨_, Tryz.func75, by kernel_rfl, rfl⟩ ⟨_, Tryz.func79, by kernel_rfl, rfl⟩
    (keyE key (4 + 2 * i0)) (keyD key (4 + 2 * i0)) (fun _ => (keyE (fun i => key (4 * (4 + 2 * i0) + i)) (4 + 2 * i0))) true (fun _ _ => 0) (fun _ _ => 0) (fun _ s _ => s % 4294967296) (fun F s n f => xtsF (keyE key (4 + 2 * i0)) false ((keyE (fun i => key (4 * (4 + 2 * i0) + i)) (4 + 2 * i0)) ((fun _ s _ => s % 4294967296 : (Nat → Nat) → Nat → Nat → Nat) F s n)) n f) (fun F s n f => xtsF (keyD key (4 + 2 * i0)) true ((keyE (fun i => key (4 * (4 + 2 * i0) + i)) (4 + 2 * i0)) ((fun _ s _ => s % 4294967296 : (Nat → Nat) → Nat → Nat → Nat) F s n)) n f) g off cap w hcap hR hS
    (partsTwo key (4 + 2 * i0) (by omega) _ g off _ cap w hc hcap hcm hR (fun i _ => hkey i) (by omega)) (fun F hF => buildXts 10 (by decide) sfOk10 _ rfl _ _ _ _ _ _ (fun s n _ _ => by show s % 4294967296 < _; omega) (keyE_lt (fun i _ => hkey _) (by omega))) (fun F hF => starts10 _ _ _ _ _ _)
theorem newXts11_any (hcap : 2 * (16 + 8 * i0) ≤ cap) (hc : KeyB w g off (2 * (16 + 8 * i0)) key) :
    Calls Tryz.prog 23 #[.string (pre i0 ++ nm 11), .slice (some ⟨g, off, none⟩) (2 * (16 + 8 * i0)) cap] w fun e w' => ∃ (cb : Nat) (F : Nat → Nat), e = .returned (.tuple #[.pointer (some ⟨cb, 0, none⟩), .int .i64 0]) ∧ (∀ i, F i < 256) ∧ CiphG 11 cb true ((fun _ s _ => s : (Nat → Nat) → Nat → Nat → Nat) F) (fun s n f => xtsF (keyE key (4 + 2 * i0)) false ((keyE (fun i => key (4 * (4 + 2 * i0) + i)) (4 + 2 * i0)) ((fun _ s _ => s : (Nat → Nat) → Nat → Nat → Nat) F s n)) n f) (fun s n f => xtsF (keyD key (4 + 2 * i0)) true ((keyE (fun i => key (4 * (4 + 2 * i0) + i)) (4 + 2 * i0)) ((fun _ s _ => s : (Nat → Nat) → Nat → Nat → Nat) F s n)) n f) w' ∧ Below w.heap.size w w' :=
  have _ := hD
  new_any i0 11 hi (by decide) (2 * (16 + 8 * i0)) (by unfold szT; rw [if_pos (by decide)]; omega) (by omega) true (fun _ => rfl) 75 79 (fun _ => []) (fun _ => rfl) (fun _ => rfl) ⟨_, Tryz.func75, by kernel_rfl, rfl⟩ ⟨_, Tryz.func79, by kernel_rfl, rfl⟩
    (keyE key (4 + 2 * i0)) (keyD key (4 + 2 * i0)) (fun _ => (keyE (fun i => key (4 * (4 + 2 * i0) + i)) (4 + 2 * i0))) true (fun _ _ => 0) (fun _ _ => 0) (fun _ s _ => s) (fun F s n f => xtsF (keyE key (4 + 2 * i0)) false ((keyE (fun i => key (4 * (4 + 2 * i0) + i)) (4 + 2 * i0)) ((fun _ s _ => s : (Nat → Nat) → Nat → Nat → Nat) F s n)) n f) (fun F s n f => xtsF (keyD key (4 + 2 * i0)) true ((keyE (fun i => key (4 * (4 + 2 * i0) + i)) (4 + 2 * i0)) ((fun _ s _ => s : (Nat → Nat) → Nat → Nat → Nat) F s n)) n f) g off cap w hcap hR hS
    (partsTwo key (4 + 2 * i0) (by omega) _ g off _ cap w hc hcap hcm hR (fun i _ => hkey i) (by omega)) (fun F hF => buildXts 11 (by decide) sfOk11 _ rfl _ _ _ _ _ _ (fun s n h _ => by show s < _; omega) (keyE_lt (fun i _ => hkey _) (by omega))) (fun F hF => starts11 _ _ _ _ _ _)
theorem newXts12_any (hcap : 2 * (16 + 8 * i0) ≤ cap) (hc : KeyB w g off (2 * (16 + 8 * i0)) key) :
    Calls Tryz.prog 23 #[.string (pre i0 ++ nm 12), .slice (some ⟨g, off, none⟩) (2 * (16 + 8 * i0)) cap] w fun e w' => ∃ (cb : Nat) (F : Nat → Nat), e = .returned (.tuple #[.pointer (some ⟨cb, 0, none⟩), .int .i64 0]) ∧ (∀ i, F i < 256) ∧ CiphG 12 cb true ((fun _ s _ => revN s : (Nat → Nat) → Nat → Nat → Nat) F) (fun s n f => xtsF (keyE key (4 + 2 * i0)) false ((keyE (fun i => key (4 * (4 + 2 * i0) + i)) (4 + 2 * i0)) ((fun _ s _ => revN s : (Nat → Nat) → Nat → Nat → Nat) F s n)) n f) (fun s n f => xtsF (keyD key (4 + 2 * i0)) true ((keyE (fun i => key (4 * (4 + 2 * i0) + i)) (4 + 2 * i0)) ((fun _ s _ => revN s : (Nat → Nat) → Nat → Nat → Nat) F s n)) n f) w' ∧ Below w.heap.size w w' :=
  have _ := hD
  new_any i0 12 hi (by decide) (2 * (16 + 8 * i0)) (by unfold szT; rw [if_pos (by decide)]; omega) (by omega) true (fun _ => rfl) 75 79 (fun _ => []) (fun _ => rfl) (fun _ => rfl) ⟨_, Tryz.func75, by kernel_rfl, rfl⟩ ⟨_, Tryz.func79, by kernel_rfl, rfl⟩
    (keyE key (4 + 2 * i0)) (keyD key (4 + 2 * i0)) (fun _ => (keyE (fun i => key (4 * (4 + 2 * i0) + i)) (4 + 2 * i0))) true (fun _ _ => 0) (fun _ _ => 0) (fun _ s _ => revN s) (fun F s n f => xtsF (keyE key (4 + 2 * i0)) false ((keyE (fun i => key (4 * (4 + 2 * i0) + i)) (4 + 2 * i0)) ((fun _ s _ => revN s : (Nat → Nat) → Nat → Nat → Nat) F s n)) n f) (fun F s n f => xtsF (keyD key (4 + 2 * i0)) true ((keyE (fun i => key (4 * (4 + 2 * i0) + i)) (4 + 2 * i0)) ((fun _ s _ => revN s : (Nat → Nat) → Nat → Nat → Nat) F s n)) n f) g off cap w hcap hR hS
    (partsTwo key (4 + 2 * i0) (by omega) _ g off _ cap w hc hcap hcm hR (fun i _ => hkey i) (by omega)) (fun F hF => buildXts 12 (by decide) sfOk12 _ rfl _ _ _ _ _ _ (fun s n _ _ => revN_lt _) (keyE_lt (fun i _ => hkey _) (by omega))) (fun F hF => starts12 _ _ _ _ _ _)
theorem newXts13_any (hcap : 2 * (16 + 8 * i0) ≤ cap) (hc : KeyB w g off (2 * (16 + 8 * i0)) key) :
    Calls Tryz.prog 23 #[.string (pre i0 ++ nm 13), .slice (some ⟨g, off, none⟩) (2 * (16 + 8 * i0)) cap] w fun e w' => ∃ (cb : Nat) (F : Nat → Nat), e = .returned (.tuple #[.pointer (some ⟨cb, 0, none⟩), .int .i64 0]) ∧ (∀ i, F i < 256) ∧ CiphG 13 cb true ((fun F s _ => keyE (sumF F (fun i => F (16 + i))) 8 s : (Nat → Nat) → Nat → Nat → Nat) F) (fun s n f => xtsF (keyE key (4 + 2 * i0)) false ((keyE (fun i => key (4 * (4 + 2 * i0) + i)) (4 + 2 * i0)) ((fun F s _ => keyE (sumF F (fun i => F (16 + i))) 8 s : (Nat → Nat) → Nat → Nat → Nat) F s n)) n f) (fun s n f => xtsF (keyD key (4 + 2 * i0)) true ((keyE (fun i => key (4 * (4 + 2 * i0) + i)) (4 + 2 * i0)) ((fun F s _ => keyE (sumF F (fun i => F (16 + i))) 8 s : (Nat → Nat) → Nat → Nat → Nat) F s n)) n f) w' ∧ Below w.heap.size w w' :=
  new_any i0 13 hi (by decide) (2 * (16 + 8 * i0)) (by unfold szT; rw [if_pos (by decide)]; omega) (by omega) true (fun _ => rfl) 81 79 (fun _ => []) (fun _ => rfl) (fun _ => rfl) ⟨_, Tryz.func81, by kernel_rfl, rfl⟩ ⟨_, Tryz.func79, by kernel_rfl, rfl⟩
    (keyE key (4 + 2 * i0)) (keyD key (4 + 2 * i0)) (fun _ => (keyE (fun i => key (4 * (4 + 2 * i0) + i)) (4 + 2 * i0))) true (fun F => F) (fun F i => F (16 + i)) (fun F s _ => keyE (sumF F (fun i => F (16 + i))) 8 s) (fun F s n f => xtsF (keyE key (4 + 2 * i0)) false ((keyE (fun i => key (4 * (4 + 2 * i0) + i)) (4 + 2 * i0)) ((fun F s _ => keyE (sumF F (fun i => F (16 + i))) 8 s : (Nat → Nat) → Nat → Nat → Nat) F s n)) n f) (fun F s n f => xtsF (keyD key (4 + 2 * i0)) true ((keyE (fun i => key (4 * (4 + 2 * i0) + i)) (4 + 2 * i0)) ((fun F s _ => keyE (sumF F (fun i => F (16 + i))) 8 s : (Nat → Nat) → Nat → Nat → Nat) F s n)) n f) g off cap w hcap hR hS
    (partsDig2 key (4 + 2 * i0) (by omega) _ g off _ cap w hc hcap hcm hR hD (fun i _ => hkey i) (by omega)) (fun F hF => buildXts 13 (by decide) sfOk13 _ rfl _ _ _ _ _ _ (fun s n _ _ => keyE_lt (fun i _ => by unfold sumF; split; exact hF _; exact hF _) (by decide) _) (keyE_lt (fun i _ => hkey _) (by omega))) (fun F hF => starts13 _ _ _ _ _ _ hF (fun _ => hF _))
end
end Go.Proofs.YtmifebcaifbmoaaGreatDoor.G
end
