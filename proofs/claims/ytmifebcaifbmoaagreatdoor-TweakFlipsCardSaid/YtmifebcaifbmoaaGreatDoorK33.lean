/- Parts of the proof of TweakFlips. Knd: tweak.New of ECB, of CBC, of XTS: ciphers told by what they do. -/
import Derived.Test.YtmifebcaifbmoaaGreatDoorK32
/- Knd -/
section
namespace Go.Proofs.YtmifebcaifbmoaaGreatDoor.G
open Go.RowKit Go.Lib Go.Proofs.YtmifebcaifbmoaaGreatDoor.Blk Go.Proofs.YtmifebcaifbmoaaGreatDoor.Aes Go.Proofs.YtmifebcaifbmoaaGreatDoor.Rj Go.Proofs.YtmifebcaifbmoaaGreatDoor.Poly Go.Proofs.YtmifebcaifbmoaaGreatDoor.Field Go.Proofs.YtmifebcaifbmoaaGreatDoor.Tab Go.Proofs.YtmifebcaifbmoaaGreatDoor.Tw Go.Proofs.YtmifebcaifbmoaaGreatDoor.RS Go.Proofs.YtmifebcaifbmoaaGreatDoor.Push

theorem coreZ_fl (spec : ByteArray) (n : Int) : ∀ i, i < 16 → (coreZ spec n)[4 + i]? = some (.int .u8 0)
  | 0, _ | 1, _ | 2, _ | 3, _ | 4, _ | 5, _ | 6, _ | 7, _ | 8, _ | 9, _ | 10, _ | 11, _ | 12, _ | 13, _ | 14, _ | 15, _ => rfl
  | k + 16, hk => absurd hk (by omega)
theorem coreZ_wh (spec : ByteArray) (n : Int) : ∀ i, i < 16 → (coreZ spec n)[20 + i]? = some (.int .u8 0)
  | 0, _ | 1, _ | 2, _ | 3, _ | 4, _ | 5, _ | 6, _ | 7, _ | 8, _ | 9, _ | 10, _ | 11, _ | 12, _ | 13, _ | 14, _ | 15, _ => rfl
  | k + 16, hk => absurd hk (by omega)
section
variable (key : Nat → Nat) (nk : Nat) (hnk : nk = 4 ∨ nk = 6 ∨ nk = 8) (spec : ByteArray) (g off n cap : Nat) (w : World) (hc : KeyB w g off n key) (hcap : n ≤ cap) (hcm : cap ≤ 9223372036854775807) (hR : RconAt w)
include hnk hc hcap hcm hR
theorem partsOne (hkey : Byt key (4 * nk)) (hn : n = 4 * nk) : PartsAt 64 (fun _ => []) spec g off n cap (keyE key nk) (keyD key nk) (fun _ _ => 0) false (fun _ _ => 0) (fun _ _ => 0) w := fun xb d w' hxb b hx hd => by
  subst hn
  refine (onePart_any key nk hnk hkey xb g off cap _ w' hx rfl ⟨_, rfl⟩ (hc.below b) hcap hcm (hR.below b)).mono fun e w2 ⟨h1, ⟨v, h2, h3⟩, h4⟩ => ⟨h1, ⟨fun _ => 0, fun _ => Nat.zero_lt_succ _, _, h2, ?_⟩, h4⟩
  exact ⟨rfl, ⟨_, rfl⟩, rfl, ⟨v, rfl, doK_code h3, doK_decode h3⟩, (fun t => by cases t), fun i hi => by rw [Array.getElem?_setIfInBounds_ne (by omega)]; exact coreZ_fl _ _ i hi, fun i hi => by rw [Array.getElem?_setIfInBounds_ne (by omega)]; exact coreZ_wh _ _ i hi⟩
theorem partsDig (hD : DgW w) (hkey : Byt key (4 * nk)) (hn : n = 4 * nk) : PartsAt 116 (fun d => [.pointer (some ⟨d, 0, none⟩)]) spec g off n cap (keyE key nk) (keyD key nk) (fun F => keyE F 8) true (fun _ _ => 0) (fun _ _ => 0) w := fun xb d w' hxb b hx hd => by
  have hgl : g < w.heap.size := Frame.block_lt (hc 0 (by omega))
  have hrl : 2 < w.heap.size := Frame.block_lt (hR 0 (by decide))
  have h1l : 7 < w.heap.size := by obtain ⟨z, hz⟩ := hD.cu 0 (by decide); exact Frame.block_lt hz
  have h2l : 6 < w.heap.size := by obtain ⟨z, hz⟩ := hD.sq 0 (by decide); exact Frame.block_lt hz
  refine (digestPart1_any key nk hnk hkey xb g off cap n _ w' hx rfl ⟨_, rfl⟩ (hc.below b) (by omega) hcap hcm (hR.below b) (by omega) (hD.below b) (by omega) (by omega) hn d (by rw [cell_of_row _ _ _ _ _ _ hd]; rfl)).mono fun e w2 ⟨h1, ⟨v, z, F, hF, h2, h3, h3'⟩, h4⟩ => ⟨h1, ⟨F, hF, _, h2, ?_⟩, h4⟩
  exact ⟨rfl, ⟨_, rfl⟩, rfl, ⟨v, rfl, doK_code h3, doK_decode h3⟩, fun _ => ⟨z, rfl, doK_code h3'⟩, fun i hi => by rw [Array.getElem?_setIfInBounds_ne (by omega), Array.getElem?_setIfInBounds_ne (by omega)]; exact coreZ_fl _ _ i hi, fun i hi => by rw [Array.getElem?_setIfInBounds_ne (by omega), Array.getElem?_setIfInBounds_ne (by omega)]; exact coreZ_wh _ _ i hi⟩
end
theorem starts1 (E D A : Nat → Nat) (two : Bool) (fl wh : Nat → Nat) : StartsAt 1 E D A two fl wh (fun _ _ => 0) := fun sf e xb cs w2 hx hk hR => by
  cases e
  intro s n w' hs hn q
  exact fromNull_any xb s n hs w'
theorem starts2 (E D A : Nat → Nat) (two : Bool) (fl wh : Nat → Nat) : StartsAt 2 E D A two fl wh (fun s _ => s % 4294967296) := fun sf e xb cs w2 hx hk hR => by
  cases e
  intro s n w' hs hn q
  exact fromPlain_any xb s n hs w'
theorem starts3 (E D A : Nat → Nat) (two : Bool) (fl wh : Nat → Nat) : StartsAt 3 E D A two fl wh (fun s _ => s) := fun sf e xb cs w2 hx hk hR => by
  cases e
  intro s n w' hs hn q
  exact fromPlain64_any xb s n hs w'
theorem starts4 (E D A : Nat → Nat) (two : Bool) (fl wh : Nat → Nat) : StartsAt 4 E D A two fl wh (fun s _ => revN s) := fun sf e xb cs w2 hx hk hR => by
  cases e
  intro s n w' hs hn q
  exact fromPlain64be_any xb s n hs w'
theorem starts5 (E D A : Nat → Nat) (two : Bool) (fl wh : Nat → Nat) : StartsAt 5 E D A two fl wh (fun s n => revN (s * (n / 16) + 1)) := fun sf e xb cs w2 hx hk hR => by
  cases e
  intro s n w' hs hn q
  exact benbi_any _ s n hs (by omega) w'
theorem starts6 (E D A : Nat → Nat) (fl wh : Nat → Nat) : StartsAt 6 E D A true fl wh (fun s _ => A s) := fun sf e xb cs w2 hx hk hR => by
  cases e
  intro s n w' hs hn q
  obtain ⟨v, h1, h2⟩ := hk.aside rfl
  exact fromAside_any xb s n hs v A w' (by rw [cell_of_row w' _ _ _ _ _ (q.cells hx (by decide))]; exact h1) (h2.kq q.q)
theorem starts7 (E D A : Nat → Nat) (two : Bool) (fl wh : Nat → Nat) : StartsAt 7 E D A two fl wh (fun s n => E (s * n)) := fun sf e xb cs w2 hx hk hR => by
  cases e
  intro s n w' hs hn q
  obtain ⟨v, h1, h2, _⟩ := hk.main
  exact fromPlace_any xb s n hs hn v E w' (by rw [cell_of_row w' _ _ _ _ _ (q.cells hx (by decide))]; exact h1) (h2.kq q.q)
theorem sfOk1 : SfOk 1 := fun sf e => by
  cases e
  exact ⟨_, Tryz.func65, by kernel_rfl, rfl⟩
theorem sfOk2 : SfOk 2 := fun sf e => by
  cases e
  exact ⟨_, Tryz.func67, by kernel_rfl, rfl⟩
theorem sfOk3 : SfOk 3 := fun sf e => by
  cases e
  exact ⟨_, Tryz.func68, by kernel_rfl, rfl⟩
theorem sfOk4 : SfOk 4 := fun sf e => by
  cases e
  exact ⟨_, Tryz.func69, by kernel_rfl, rfl⟩
theorem sfOk5 : SfOk 5 := fun sf e => by
  cases e
  exact ⟨_, Tryz.func70, by kernel_rfl, rfl⟩
theorem sfOk6 : SfOk 6 := fun sf e => by
  cases e
  exact ⟨_, Tryz.func71, by kernel_rfl, rfl⟩
theorem sfOk7 : SfOk 7 := fun sf e => by
  cases e
  exact ⟨_, Tryz.func73, by kernel_rfl, rfl⟩
section
variable (key : Nat → Nat) (i0 : Nat) (hi : i0 < 3) (hkey : ∀ i, key i < 256) (g off cap : Nat) (w : World) (hcm : cap ≤ 9223372036854775807) (hR : RconAt w) (hS : Sizes w) (hD : DgW w)
include hi hkey hcm hR hS hD
theorem newCbc1_any (hcap : 16 + 8 * i0 ≤ cap) (hc : KeyB w g off (16 + 8 * i0) key) :
    Calls Tryz.prog 23 #[.string (pre i0 ++ nm 1), .slice (some ⟨g, off, none⟩) (16 + 8 * i0) cap] w fun e w' => ∃ (cb : Nat) (F : Nat → Nat), e = .returned (.tuple #[.pointer (some ⟨cb, 0, none⟩), .int .i64 0]) ∧ (∀ i, F i < 256) ∧ CiphG 1 cb false ((fun _ _ _ => 0 : (Nat → Nat) → Nat → Nat → Nat) F) (fun s n f => cbcS (keyE key (4 + 2 * i0)) ((fun _ _ _ => 0 : (Nat → Nat) → Nat → Nat → Nat) F s n) n f) (fun s n f => cbcO (keyD key (4 + 2 * i0)) ((fun _ _ _ => 0 : (Nat → Nat) → Nat → Nat → Nat) F s n) n f) w' ∧ Below w.heap.size w w' :=
  have _ := hD
  new_any i0 1 hi (by decide) (16 + 8 * i0) (by unfold szT; rw [if_neg (by decide)]; simp [moT]) (by omega) false (fun _ => rfl) 64 66 (fun _ => []) (fun _ => rfl) (fun _ => rfl) ⟨_, Tryz.func64, by kernel_rfl, rfl⟩ ⟨_, Tryz.func66, by kernel_rfl, rfl⟩
    (keyE key (4 + 2 * i0)) (keyD key (4 + 2 * i0)) (fun _ _ => 0) false (fun _ _ => 0) (fun _ _ => 0) (fun _ _ _ => 0) (fun F s n f => cbcS (keyE key (4 + 2 * i0)) ((fun _ _ _ => 0 : (Nat → Nat) → Nat → Nat → Nat) F s n) n f) (fun F s n f => cbcO (keyD key (4 + 2 * i0)) ((fun _ _ _ => 0 : (Nat → Nat) → Nat → Nat → Nat) F s n) n f) g off cap w hcap hR hS
    (partsOne key (4 + 2 * i0) (by omega) _ g off _ cap w hc hcap hcm hR (fun i _ => hkey i) (by omega)) (fun F hF => buildCbc 1 (by decide) sfOk1 _ rfl _ _ _ _ _ _ _ (fun _ _ _ _ => by decide) (keyE_lt (fun i _ => hkey i) (by omega)) (keyD_lt (fun i _ => hkey i) (by omega))) (fun F hF => starts1 _ _ _ _ _ _)
theorem newCbc2_any (hcap : 16 + 8 * i0 ≤ cap) (hc : KeyB w g off (16 + 8 * i0) key) :
    Calls Tryz.prog 23 #[.string (pre i0 ++ nm 2), .slice (some ⟨g, off, none⟩) (16 + 8 * i0) cap] w fun e w' => ∃ (cb : Nat) (F : Nat → Nat), e = .returned (.tuple #[.pointer (some ⟨cb, 0, none⟩), .int .i64 0]) ∧ (∀ i, F i < 256) ∧ CiphG 2 cb false ((fun _ s _ => s % 4294967296 : (Nat → Nat) → Nat → Nat → Nat) F) (fun s n f => cbcS (keyE key (4 + 2 * i0)) ((fun _ s _ => s % 4294967296 : (Nat → Nat) → Nat → Nat → Nat) F s n) n f) (fun s n f => cbcO (keyD key (4 + 2 * i0)) ((fun _ s _ => s % 4294967296 : (Nat → Nat) → Nat → Nat → Nat) F s n) n f) w' ∧ Below w.heap.size w w' :=
  have _ := hD
  new_any i0 2 hi (by decide) (16 + 8 * i0) (by unfold szT; rw [if_neg (by decide)]; simp [moT]) (by omega) false (fun _ => rfl) 64 66 (fun _ => []) (fun _ => rfl) (fun _ => rfl) ⟨_, Tryz.func64, by kernel_rfl, rfl⟩ ⟨_, Tryz.func66, by kernel_rfl, rfl⟩
    (keyE key (4 + 2 * i0)) (keyD key (4 + 2 * i0)) (fun _ _ => 0) false (fun _ _ => 0) (fun _ _ => 0) (fun _ s _ => s % 4294967296) (fun F s n f => cbcS (keyE key (4 + 2 * i0)) ((fun _ s _ => s % 4294967296 : (Nat → Nat) → Nat → Nat → Nat) F s n) n f) (fun F s n f => cbcO (keyD key (4 + 2 * i0)) ((fun _ s _ => s % 4294967296 : (Nat → Nat) → Nat → Nat → Nat) F s n) n f) g off cap w hcap hR hS
    (partsOne key (4 + 2 * i0) (by omega) _ g off _ cap w hc hcap hcm hR (fun i _ => hkey i) (by omega)) (fun F hF => buildCbc 2 (by decide) sfOk2 _ rfl _ _ _ _ _ _ _ (fun s n _ _ => by show s % 4294967296 < _; omega) (keyE_lt (fun i _ => hkey i) (by omega)) (keyD_lt (fun i _ => hkey i) (by omega))) (fun F hF => starts2 _ _ _ _ _ _)
theorem newCbc3_any (hcap : 16 + 8 * i0 ≤ cap) (hc : KeyB w g off (16 + 8 * i0) key) :
    Calls Tryz.prog 23 #[.string (pre i0 ++ nm 3), .slice (some ⟨g, off, none⟩) (16 + 8 * i0) cap] w fun e w' => ∃ (cb : Nat) (F : Nat → Nat), e = .returned (.tuple #[.pointer (some ⟨cb, 0, none⟩), .int .i64 0]) ∧ (∀ i, F i < 256) ∧ CiphG 3 cb false ((fun _ s _ => s : (Nat → Nat) → Nat → Nat → Nat) F) (fun s n f => cbcS (keyE key (4 + 2 * i0)) ((fun _ s _ => s : (Nat → Nat) → Nat → Nat → Nat) F s n) n f) (fun s n f => cbcO (keyD key (4 + 2 * i0)) ((fun _ s _ => s : (Nat → Nat) → Nat → Nat → Nat) F s n) n f) w' ∧ Below w.heap.size w w' :=
  have _ := hD
  new_any i0 3 hi (by decide) (16 + 8 * i0) (by unfold szT; rw [if_neg (by decide)]; simp [moT]) (by omega) false (fun _ => rfl) 64 66 (fun _ => []) (fun _ => rfl) (fun _ => rfl) ⟨_, Tryz.func64, by kernel_rfl, rfl⟩ ⟨_, Tryz.func66, by kernel_rfl, rfl⟩
    (keyE key (4 + 2 * i0)) (keyD key (4 + 2 * i0)) (fun _ _ => 0) false (fun _ _ => 0) (fun _ _ => 0) (fun _ s _ => s) (fun F s n f => cbcS (keyE key (4 + 2 * i0)) ((fun _ s _ => s : (Nat → Nat) → Nat → Nat → Nat) F s n) n f) (fun F s n f => cbcO (keyD key (4 + 2 * i0)) ((fun _ s _ => s : (Nat → Nat) → Nat → Nat → Nat) F s n) n f) g off cap w hcap hR hS
    (partsOne key (4 + 2 * i0) (by omega) _ g off _ cap w hc hcap hcm hR (fun i _ => hkey i) (by omega)) (fun F hF => buildCbc 3 (by decide) sfOk3 _ rfl _ _ _ _ _ _ _ (fun s n h _ => by show s < _; omega) (keyE_lt (fun i _ => hkey i) (by omega)) (keyD_lt (fun i _ => hkey i) (by omega))) (fun F hF => starts3 _ _ _ _ _ _)
theorem newCbc4_any (hcap : 16 + 8 * i0 ≤ cap) (hc : KeyB w g off (16 + 8 * i0) key) :
    Calls Tryz.prog 23 #[.string (pre i0 ++ nm 4), .slice (some ⟨g, off, none⟩) (16 + 8 * i0) cap] w fun e w' => ∃ (cb : Nat) (F : Nat → Nat), e = .returned (.tuple #[.pointer (some ⟨cb, 0, none⟩), .int .i64 0]) ∧ (∀ i, F i < 256) ∧ CiphG 4 cb false ((fun _ s _ => revN s : (Nat → Nat) → Nat → Nat → Nat) F) (fun s n f => cbcS (keyE key (4 + 2 * i0)) ((fun _ s _ => revN s : (Nat → Nat) → Nat → Nat → Nat) F s n) n f) (fun s n f => cbcO (keyD key (4 + 2 * i0)) ((fun _ s _ => revN s : (Nat → Nat) → Nat → Nat → Nat) F s n) n f) w' ∧ Below w.heap.size w w' :=
  have _ := hD
  new_any i0 4 hi (by decide) (16 + 8 * i0) (by unfold szT; rw [if_neg (by decide)]; simp [moT]) (by omega) false (fun _ => rfl) 64 66 (fun _ => []) (fun _ => rfl) (fun _ => rfl) ⟨_, Tryz.func64, by kernel_rfl, rfl⟩ ⟨_, Tryz.func66, by kernel_rfl, rfl⟩
    (keyE key (4 + 2 * i0)) (keyD key (4 + 2 * i0)) (fun _ _ => 0) false (fun _ _ => 0) (fun _ _ => 0) (fun _ s _ => revN s) (fun F s n f => cbcS (keyE key (4 + 2 * i0)) ((fun _ s _ => revN s : (Nat → Nat) → Nat → Nat → Nat) F s n) n f) (fun F s n f => cbcO (keyD key (4 + 2 * i0)) ((fun _ s _ => revN s : (Nat → Nat) → Nat → Nat → Nat) F s n) n f) g off cap w hcap hR hS
    (partsOne key (4 + 2 * i0) (by omega) _ g off _ cap w hc hcap hcm hR (fun i _ => hkey i) (by omega)) (fun F hF => buildCbc 4 (by decide) sfOk4 _ rfl _ _ _ _ _ _ _ (fun s n _ _ => revN_lt _) (keyE_lt (fun i _ => hkey i) (by omega)) (keyD_lt (fun i _ => hkey i) (by omega))) (fun F hF => starts4 _ _ _ _ _ _)
theorem newCbc5_any (hcap : 16 + 8 * i0 ≤ cap) (hc : KeyB w g off (16 + 8 * i0) key) :
    Calls Tryz.prog 23 #[.string (pre i0 ++ nm 5), .slice (some ⟨g, off, none⟩) (16 + 8 * i0) cap] w fun e w' => ∃ (cb : Nat) (F : Nat → Nat), e = .returned (.tuple #[.pointer (some ⟨cb, 0, none⟩), .int .i64 0]) ∧ (∀ i, F i < 256) ∧ CiphG 5 cb false ((fun _ s n => revN (s * (n / 16) + 1) : (Nat → Nat) → Nat → Nat → Nat) F) (fun s n f => cbcS (keyE key (4 + 2 * i0)) ((fun _ s n => revN (s * (n / 16) + 1) : (Nat → Nat) → Nat → Nat → Nat) F s n) n f) (fun s n f => cbcO (keyD key (4 + 2 * i0)) ((fun _ s n => revN (s * (n / 16) + 1) : (Nat → Nat) → Nat → Nat → Nat) F s n) n f) w' ∧ Below w.heap.size w w' :=
  have _ := hD
  new_any i0 5 hi (by decide) (16 + 8 * i0) (by unfold szT; rw [if_neg (by decide)]; simp [moT]) (by omega) false (fun _ => rfl) 64 66 (fun _ => []) (fun _ => rfl) (fun _ => rfl) ⟨_, Tryz.func64, by kernel_rfl, rfl⟩ ⟨_, Tryz.func66, by kernel_rfl, rfl⟩
    (keyE key (4 + 2 * i0)) (keyD key (4 + 2 * i0)) (fun _ _ => 0) false (fun _ _ => 0) (fun _ _ => 0) (fun _ s n => revN (s * (n / 16) + 1)) (fun F s n f => cbcS (keyE key (4 + 2 * i0)) ((fun _ s n => revN (s * (n / 16) + 1) : (Nat → Nat) → Nat → Nat → Nat) F s n) n f) (fun F s n f => cbcO (keyD key (4 + 2 * i0)) ((fun _ s n => revN (s * (n / 16) + 1) : (Nat → Nat) → Nat → Nat → Nat) F s n) n f) g off cap w hcap hR hS
    (partsOne key (4 + 2 * i0) (by omega) _ g off _ cap w hc hcap hcm hR (fun i _ => hkey i) (by omega)) (fun F hF => buildCbc 5 (by decide) sfOk5 _ rfl _ _ _ _ _ _ _ (fun s n _ _ => revN_lt _) (keyE_lt (fun i _ => hkey i) (by omega)) (keyD_lt (fun i _ => hkey i) (by omega))) (fun F hF => starts5 _ _ _ _ _ _)
theorem newCbc6_any (hcap : 16 + 8 * i0 ≤ cap) (hc : KeyB w g off (16 + 8 * i0) key) :
    Calls Tryz.prog 23 #[.string (pre i0 ++ nm 6), .slice (some ⟨g, off, none⟩) (16 + 8 * i0) cap] w fun e w' => ∃ (cb : Nat) (F : Nat → Nat), e = .returned (.tuple #[.pointer (some ⟨cb, 0, none⟩), .int .i64 0]) ∧ (∀ i, F i < 256) ∧ CiphG 6 cb false ((fun F s _ => keyE F 8 s : (Nat → Nat) → Nat → Nat → Nat) F) (fun s n f => cbcS (keyE key (4 + 2 * i0)) ((fun F s _ => keyE F 8 s : (Nat → Nat) → Nat → Nat → Nat) F s n) n f) (fun s n f => cbcO (keyD key (4 + 2 * i0)) ((fun F s _ => keyE F 8 s : (Nat → Nat) → Nat → Nat → Nat) F s n) n f) w' ∧ Below w.heap.size w w' :=
  new_any i0 6 hi (by decide) (16 + 8 * i0) (by unfold szT; rw [if_neg (by decide)]; simp [moT]) (by omega) false (fun _ => rfl) 116 66 (fun d => [.pointer (some ⟨d, 0, none⟩)]) (fun _ => rfl) (fun _ => rfl) ⟨_, Tryz.func116, by kernel_rfl, rfl⟩ ⟨_, Tryz.func66, by kernel_rfl, rfl⟩
    (keyE key (4 + 2 * i0)) (keyD key (4 + 2 * i0)) (fun F => keyE F 8) true (fun _ _ => 0) (fun _ _ => 0) (fun F s _ => keyE F 8 s) (fun F s n f => cbcS (keyE key (4 + 2 * i0)) ((fun F s _ => keyE F 8 s : (Nat → Nat) → Nat → Nat → Nat) F s n) n f) (fun F s n f => cbcO (keyD key (4 + 2 * i0)) ((fun F s _ => keyE F 8 s : (Nat → Nat) → Nat → Nat → Nat) F s n) n f) g off cap w hcap hR hS
    (partsDig key (4 + 2 * i0) (by omega) _ g off _ cap w hc hcap hcm hR hD (fun i _ => hkey i) (by omega)) (fun F hF => buildCbc 6 (by decide) sfOk6 _ rfl _ _ _ _ _ _ _ (fun s n _ _ => keyE_lt (fun i _ => hF i) (by decide) _) (keyE_lt (fun i _ => hkey i) (by omega)) (keyD_lt (fun i _ => hkey i) (by omega))) (fun F hF => starts6 _ _ _ _ _)
theorem newCbc7_any (hcap : 16 + 8 * i0 ≤ cap) (hc : KeyB w g off (16 + 8 * i0) key) :
    Calls Tryz.prog 23 #[.string (pre i0 ++ nm 7), .slice (some ⟨g, off, none⟩) (16 + 8 * i0) cap] w fun e w' => ∃ (cb : Nat) (F : Nat → Nat), e = .returned (.tuple #[.pointer (some ⟨cb, 0, none⟩), .int .i64 0]) ∧ (∀ i, F i < 256) ∧ CiphG 7 cb false ((fun _ s n => keyE key (4 + 2 * i0) (s * n) : (Nat → Nat) → Nat → Nat → Nat) F) (fun s n f => cbcS (keyE key (4 + 2 * i0)) ((fun _ s n => keyE key (4 + 2 * i0) (s * n) : (Nat → Nat) → Nat → Nat → Nat) F s n) n f) (fun s n f => cbcO (keyD key (4 + 2 * i0)) ((fun _ s n => keyE key (4 + 2 * i0) (s * n) : (Nat → Nat) → Nat → Nat → Nat) F s n) n f) w' ∧ Below w.heap.size w w' :=
  have _ := hD
  new_any i0 7 hi (by decide) (16 + 8 * i0) (by unfold szT; rw [if_neg (by decide)]; simp [moT]) (by omega) false (fun _ => rfl) 64 66 (fun _ => []) (fun _ => rfl) (fun _ => rfl) ⟨_, Tryz.func64, by kernel_rfl, rfl⟩ ⟨_, Tryz.func66, by kernel_rfl, rfl⟩
    (keyE key (4 + 2 * i0)) (keyD key (4 + 2 * i0)) (fun _ _ => 0) false (fun _ _ => 0) (fun _ _ => 0) (fun _ s n => keyE key (4 + 2 * i0) (s * n)) (fun F s n f => cbcS (keyE key (4 + 2 * i0)) ((fun _ s n => keyE key (4 + 2 * i0) (s * n) : (Nat → Nat) → Nat → Nat → Nat) F s n) n f) (fun F s n f => cbcO (keyD key (4 + 2 * i0)) ((fun _ s n => keyE key (4 + 2 * i0) (s * n) : (Nat → Nat) → Nat → Nat → Nat) F s n) n f) g off cap w hcap hR hS
    (partsOne key (4 + 2 * i0) (by omega) _ g off _ cap w hc hcap hcm hR (fun i _ => hkey i) (by omega)) (fun F hF => buildCbc 7 (by decide) sfOk7 _ rfl _ _ _ _ _ _ _ (fun s n _ _ => keyE_lt (fun i _ => hkey i) (by omega) _) (keyE_lt (fun i _ => hkey i) (by omega)) (keyD_lt (fun i _ => hkey i) (by omega))) (fun F hF => starts7 _ _ _ _ _ _)
end
end Go.Proofs.YtmifebcaifbmoaaGreatDoor.G
end
