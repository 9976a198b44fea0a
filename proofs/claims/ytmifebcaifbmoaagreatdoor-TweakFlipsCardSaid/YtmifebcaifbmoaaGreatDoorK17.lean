/- Parts of the proof of TweakFlips. G2: tweak.New of any mode: by what its parts' function and its build do. Pl1: Sectors block by block, plain: blocks by their places; XTS with bytes that steal; chains. RS: The state of a function that works on a sector: its bytes, its own blocks of 16 bytes; laws of its regions. General. Md: What a cipher's functions read of it. General. Cipher2: AES: decrypting undoes encrypting, and the other way round; the document's way back is the program's. No Go here. -/
import Derived.Test.YtmifebcaifbmoaaGreatDoorK16
import Derived.Test.YtmifebcaifbmoaaGreatDoorK00
/- G2 -/
section
namespace Go.Proofs.YtmifebcaifbmoaaGreatDoor.G
open Go.RowKit Go.Lib Go.Proofs.YtmifebcaifbmoaaGreatDoor.Blk Go.Proofs.YtmifebcaifbmoaaGreatDoor.Aes Go.Proofs.YtmifebcaifbmoaaGreatDoor.Poly Go.Proofs.YtmifebcaifbmoaaGreatDoor.Field Go.Proofs.YtmifebcaifbmoaaGreatDoor.Tab Go.Proofs.YtmifebcaifbmoaaGreatDoor.Byts Go.Proofs.YtmifebcaifbmoaaGreatDoor.Tw

/-- what stands in a core behind its parts -/
structure KeyR (E D A : Nat → Nat) (two : Bool) (fl wh : Nat → Nat) (cs : Array Value) (w : World) : Prop where
  n : cs.size = 37
  nm : ∃ s, cs[0]? = some (.string s)
  wip : cs[36]? = some (.bool false)
  main : ∃ v, cs[2]? = some v ∧ DoK 106 v E w ∧ DoK 109 v D w
  aside : two = true → ∃ v, cs[3]? = some v ∧ DoK 106 v A w
  fl : ∀ i, i < 16 → cs[4 + i]? = some (.int .u8 (fl i : Nat))
  wh : ∀ i, i < 16 → cs[20 + i]? = some (.int .u8 (wh i : Nat))
theorem KeyR.kq {E D A : Nat → Nat} {two : Bool} {fl wh : Nat → Nat} {cs : Array Value} {w w' : World} (h : KeyR E D A two fl wh cs w) (k : Kq w w') : KeyR E D A two fl wh cs w' := by
  obtain ⟨v, m1, m2, m3⟩ := h.main
  refine ⟨h.n, h.nm, h.wip, ⟨v, m1, m2.kq k, m3.kq k⟩, fun t => ?_, h.fl, h.wh⟩
  obtain ⟨z, z1, z2⟩ := h.aside t
  exact ⟨z, z1, z2.kq k⟩
/-- what a mode's parts' function makes of a new core; g: the key's bytes -/
def PartsAt (pf : FuncId) (caps : Nat → List Value) (spec : ByteArray) (g off n cap : Nat) (E D : Nat → Nat) (A : (Nat → Nat) → Nat → Nat) (two : Bool) (fl wh : (Nat → Nat) → Nat → Nat) (w : World) : Prop := ∀ xb d w', w.heap.size ≤ xb → Below w.heap.size w w' → w'.heap[xb]? = some (.cells (coreZ spec (n : Nat)) 96 (0, 0)) → w'.heap[d]? = some (.cells #[fv 64] 91 (0, 0)) →
  Calls Tryz.prog pf (([.pointer (some ⟨xb, 0, none⟩), .slice (some ⟨g, off, none⟩) n cap] : List Value) ++ caps d).toArray w' fun e w2 => e = .returned (.tuple #[]) ∧ (∃ F : Nat → Nat, (∀ i, F i < 256) ∧ ∃ cs, w2.heap[xb]? = some (.cells cs 96 (0, 0)) ∧ KeyR E D (A F) two (fl F) (wh F) cs w2) ∧ w'.grownBy w2 (some xb)
/-- what a mode's build lays into a cipher -/
def BuildAt (bf : FuncId) (k : Nat) (loose : Bool) (E D A : Nat → Nat) (two : Bool) (fl wh : Nat → Nat) (iv : Nat → Nat → Nat) (S O : Nat → Nat → (Nat → Nat) → Nat → Nat) : Prop := ∀ cb xb gk d cs w', w'.heap[cb]? = some (.cells #[.pointer (some ⟨xb, 0, none⟩), .pointer (some ⟨gk, k * 7, none⟩), .nilFunc, .nilFunc] 80 (0, 0)) →
  w'.heap[xb]? = some (.cells cs 96 (0, 0)) → KeyR E D A two fl wh cs w' → KindsAt gk d w' → RconAt w' → (∀ sf, (kindL 0 k)[3]? = some (fv sf) → ∀ w2, w2.heap[xb]? = some (.cells cs 96 (0, 0)) → KeyR E D A two fl wh cs w2 → RconAt w2 → StAt sf xb iv w2) →
  Calls Tryz.prog bf #[.pointer (some ⟨cb, 0, none⟩)] w' fun e w2 => e = .returned (.tuple #[]) ∧ (∃ f1 a1 c1 f2 a2 c2, w2.heap[cb]? = some (.cells #[.pointer (some ⟨xb, 0, none⟩), .pointer (some ⟨gk, k * 7, none⟩), .func (.func f1) (List.toArray a1) (List.toArray c1), .func (.func f2) (List.toArray a2) (List.toArray c2)] 80 (0, 0)) ∧ FnOk f1 ∧ FnOk f2 ∧ RunAt f1 a1 c1 (okN loose) S w2 ∧ RunAt f2 a2 c2 (okN loose) O w2) ∧ w'.grownBy w2 (some cb)
/-- what a mode begins a sector with -/
def StartsAt (k : Nat) (E D A : Nat → Nat) (two : Bool) (fl wh : Nat → Nat) (iv : Nat → Nat → Nat) : Prop := ∀ sf, (kindL 0 k)[3]? = some (fv sf) → ∀ xb cs w2, w2.heap[xb]? = some (.cells cs 96 (0, 0)) → KeyR E D A two fl wh cs w2 → RconAt w2 → StAt sf xb iv w2
set_option maxRecDepth 100000 in
set_option maxHeartbeats 4000000 in
theorem new_any (i0 k : Nat) (hi : i0 < 3) (hk : k < 17) (n : Nat) (hn : szT i0 k = (n : Nat)) (_hn2 : n ≤ 1000) (loose : Bool) (hl : ∀ d, (kindL d k)[6]? = some (.bool loose)) (pf bf : FuncId) (caps : Nat → List Value) (hpf : ∀ d, (kindL d k)[5]? = some (.func (.func pf) #[] (caps d).toArray)) (hbf : ∀ d, (kindL d k)[4]? = some (fv bf)) (ok1 : FnOk pf) (ok2 : FnOk bf)
    (E D : Nat → Nat) (A : (Nat → Nat) → Nat → Nat) (two : Bool) (fl wh : (Nat → Nat) → Nat → Nat) (iv : (Nat → Nat) → Nat → Nat → Nat) (S O : (Nat → Nat) → Nat → Nat → (Nat → Nat) → Nat → Nat) (g off cap : Nat) (w : World) (_hcap : n ≤ cap) (hR : RconAt w) (hS : Sizes w)
    (PT : PartsAt pf caps (pre i0 ++ nm k) g off n cap E D A two fl wh w) (BT : ∀ F : Nat → Nat, (∀ i, F i < 256) → BuildAt bf k loose E D (A F) two (fl F) (wh F) (iv F) (S F) (O F)) (ST : ∀ F : Nat → Nat, (∀ i, F i < 256) → StartsAt k E D (A F) two (fl F) (wh F) (iv F)) :
    Calls Tryz.prog 23 #[.string (pre i0 ++ nm k), .slice (some ⟨g, off, none⟩) n cap] w fun e w' => ∃ cb F, e = .returned (.tuple #[.pointer (some ⟨cb, 0, none⟩), .int .i64 0]) ∧ (∀ i, F i < 256) ∧ CiphG k cb loose (iv F) (S F) (O F) w' ∧ Below w.heap.size w w' := by
  have FI := Lib.hid (find_any i0 k hi hk w hS)
  rw [hn] at FI
  obtain ⟨fn1, o1, o2, o3⟩ := ok1
  obtain ⟨fn2, p1, p2, p3⟩ := ok2
  have PT2 := Lib.hid PT
  have BT2 := Lib.hid BT
  have ST2 := Lib.hid ST
  have HR := Lib.hid hR
  have HL := Lib.hid hl
  have HP := Lib.hid hpf
  have HB := Lib.hid hbf
  clear hR hS hn PT BT hl hpf hbf ST
  generalize pre i0 ++ nm k = spec at *
  go_enter Tryz.func23, Tryz.ntmps23
  go_upto_region 6 with (go_at_call 43; refine FI.out.mono ?_; rintro e w2 ⟨gk, d, rfl, hg2, hka, hb⟩)
  have K2 := Lib.hid hka
  have B2 := Lib.hid hb
  obtain ⟨kl1, kl2⟩ := KindsAt_lt hka
  clear hka hb
  refine wp_region_lit ?_
  refine Step.p_move rfl _ rfl (.string spec) rfl ?_
  simp only [Act.put, List.setIfInBounds_toArray, List.set_cons_zero, List.set_cons_succ]
  refine Step.p_move rfl _ rfl (.slice (some ⟨g, off, none⟩) n cap) rfl ?_
  simp only [Act.put, List.setIfInBounds_toArray, List.set_cons_zero, List.set_cons_succ]
  refine Step.p_len rfl _ _ 5 rfl (_) (n) (cap) rfl Tryz.underlying22 ?_
  simp only [Act.put, List.setIfInBounds_toArray, List.set_cons_zero, List.set_cons_succ]
  refine Step.p_val rfl (.agg (coreZ spec (n : Nat))) (by unfold execOp; go_simp; rfl) ?_
  simp only [Act.put, List.setIfInBounds_toArray, List.set_cons_zero, List.set_cons_succ]
  refine Seg.p_boxA rfl 96 _ rfl (coreZ spec (n : Nat)) rfl ?_
  simp only [Act.put, List.setIfInBounds_toArray, List.set_cons_zero, List.set_cons_succ]
  refine Step.p_move rfl _ rfl (.pointer (some ⟨gk, k * 7, none⟩)) rfl ?_
  simp only [Act.put, List.setIfInBounds_toArray, List.set_cons_zero, List.set_cons_succ]
  refine Step.p_val rfl (.agg #[.pointer (some ⟨w2.heap.size, 0, none⟩), .pointer (some ⟨gk, k * 7, none⟩), .nilFunc, .nilFunc]) (by unfold execOp; go_simp; try rfl) ?_
  simp only [Act.put, List.setIfInBounds_toArray, List.set_cons_zero, List.set_cons_succ]
  refine Seg.p_boxA rfl 80 _ rfl _ rfl ?_
  simp only [Act.put, List.setIfInBounds_toArray, List.set_cons_zero, List.set_cons_succ]
  rw [World.size_alloc]
  refine Step.p_assign rfl _ rfl (.pointer (some ⟨w2.heap.size + 1, 0, none⟩)) rfl ?_
  simp only [Act.put, List.setIfInBounds_toArray, List.set_cons_zero, List.set_cons_succ]
  refine wpList_nil ?_
  have X3 : Hid (((w2.alloc (.cells (coreZ spec (n : Nat)) 96)).alloc (.cells #[.pointer (some ⟨w2.heap.size, 0, none⟩), .pointer (some ⟨gk, k * 7, none⟩), .nilFunc, .nilFunc] 80)).heap[w2.heap.size]? = some (.cells (coreZ spec (n : Nat)) 96 (0, 0))) := Lib.hid ((heap_alloc_old _ _ (by simp)).trans (heap_alloc_new w2 _))
  have Y3 : Hid (((w2.alloc (.cells (coreZ spec (n : Nat)) 96)).alloc (.cells #[.pointer (some ⟨w2.heap.size, 0, none⟩), .pointer (some ⟨gk, k * 7, none⟩), .nilFunc, .nilFunc] 80)).heap[w2.heap.size + 1]? = some (.cells #[.pointer (some ⟨w2.heap.size, 0, none⟩), .pointer (some ⟨gk, k * 7, none⟩), .nilFunc, .nilFunc] 80 (0, 0))) := Lib.hid (by
    have := heap_alloc_new (w2.alloc (.cells (coreZ spec (n : Nat)) 96)) (.cells #[.pointer (some ⟨w2.heap.size, 0, none⟩), .pointer (some ⟨gk, k * 7, none⟩), .nilFunc, .nilFunc] 80)
    rwa [World.size_alloc] at this)
  have B3 : Hid (Below w2.heap.size w2 ((w2.alloc (.cells (coreZ spec (n : Nat)) 96)).alloc (.cells #[.pointer (some ⟨w2.heap.size, 0, none⟩), .pointer (some ⟨gk, k * 7, none⟩), .nilFunc, .nilFunc] 80))) := Lib.hid (((Below.refl _ _).alloc (Nat.le_refl _) _).alloc (by simp) _)
  generalize ((w2.alloc (.cells (coreZ spec (n : Nat)) 96)).alloc (.cells #[.pointer (some ⟨w2.heap.size, 0, none⟩), .pointer (some ⟨gk, k * 7, none⟩), .nilFunc, .nilFunc] 80)) = w3 at *
  have hs2 := B2.out.size
  have K3 := Lib.hid (K2.out.below B3.out)
  have BB3 := Lib.hid (B2.out.trans (B3.out.mono B2.out.size))
  go_upto_region 7 with fail
  refine wp_region_still_tail 9 (by kernel_rfl) (by kernel_rfl) ?_
  refine Still.s_move rfl _ rfl (.pointer (some ⟨gk, k * 7, none⟩)) rfl ?_
  simp only [Act.put, List.setIfInBounds_toArray, List.set_cons_zero, List.set_cons_succ]
  refine Still.s_val rfl (.pointer (some ⟨gk, k * 7, none⟩)) (by unfold execOp; go_simp) ?_
  simp only [Act.put, List.setIfInBounds_toArray, List.set_cons_zero, List.set_cons_succ]
  refine Still.s_val rfl (.pointer (some ⟨gk, k * 7 + 5, none⟩)) (by unfold execOp; simp only [Sem.run_bind, Sem.run_pure]; rfl) ?_
  simp only [Act.put, List.setIfInBounds_toArray, List.set_cons_zero, List.set_cons_succ]
  refine Still.s_load1 rfl _ _ rfl (gk) (k * 7 + 5) rfl (.func (.func pf) #[] (caps d).toArray) (K3.out.c k hk 5 _ (HP.out d)) Tryz.underlying91 rfl ?_
  simp only [Act.put, List.setIfInBounds_toArray, List.set_cons_zero, List.set_cons_succ]
  refine Still.s_move rfl _ rfl (.pointer (some ⟨w2.heap.size + 1, 0, none⟩)) rfl ?_
  simp only [Act.put, List.setIfInBounds_toArray, List.set_cons_zero, List.set_cons_succ]
  refine Still.s_val rfl (.pointer (some ⟨w2.heap.size + 1, 0, none⟩)) (by unfold execOp; go_simp) ?_
  simp only [Act.put, List.setIfInBounds_toArray, List.set_cons_zero, List.set_cons_succ]
  refine Still.s_val rfl (.pointer (some ⟨w2.heap.size + 1, 0, none⟩)) (by unfold execOp; simp only [Sem.run_bind, Sem.run_pure]; rfl) ?_
  simp only [Act.put, List.setIfInBounds_toArray, List.set_cons_zero, List.set_cons_succ]
  refine Still.s_load1 rfl _ _ rfl (w2.heap.size + 1) (0) rfl (.pointer (some ⟨w2.heap.size, 0, none⟩)) (by show w3.cell? _ = _; rw [cell_of_row w3 _ _ _ _ _ Y3.out]; rfl) Tryz.underlying76 rfl ?_
  simp only [Act.put, List.setIfInBounds_toArray, List.set_cons_zero, List.set_cons_succ]
  refine Still.s_move rfl _ rfl (.slice (some ⟨g, off, none⟩) n cap) rfl ?_
  simp only [Act.put, List.setIfInBounds_toArray, List.set_cons_zero, List.set_cons_succ]
  refine wpStill_nil ?_
  simp only [List.drop]
  refine Step.p_wp rfl (Step.w_callv _ _ _ rfl pf (caps d) rfl o1 o2 o3 [.pointer (some ⟨w2.heap.size, 0, none⟩), .slice (some ⟨g, off, none⟩) n cap] rfl (PT2.out w2.heap.size d w3.drew hs2 BB3.out.drew X3.out K3.out.d) ?_)
  rintro e w4 ⟨rfl, ⟨F, hFb, cs4, h4c, h4a⟩, h4g⟩
  refine ⟨_, rfl, ?_⟩
  simp only [Act.put, List.setIfInBounds_toArray, List.set_cons_zero, List.set_cons_succ]
  refine wpList_nil ?_
  have C4 := Lib.hid h4c
  have A4 := Lib.hid h4a
  have G4 : Hid (w3.grownBy w4 (some w2.heap.size)) := Lib.hid ⟨h4g.os, h4g.tape, h4g.output, h4g.size, h4g.block⟩
  clear h4c h4a h4g
  have hl3 : w2.heap.size + 1 < w3.heap.size := (Array.getElem?_eq_some_iff.1 Y3.out).1
  have Y4 := Lib.hid ((G4.out.block (w2.heap.size + 1) hl3 (by simp)).trans Y3.out)
  have K4 := Lib.hid (KindsAt_gb K3.out G4.out (by omega) (by omega))
  have B4 := Lib.hid (BB3.out.grown G4.out BB3.out.size (fun j hj => by cases hj; exact hs2))
  clear K3 BB3 B3 X3 Y3 PT2 FI
  go_upto_region 8 with fail
  refine wp_region_lit ?_
  refine Step.p_move rfl _ rfl (.pointer (some ⟨gk, k * 7, none⟩)) rfl ?_
  simp only [Act.put, List.setIfInBounds_toArray, List.set_cons_zero, List.set_cons_succ]
  refine Step.p_val rfl (.pointer (some ⟨gk, k * 7, none⟩)) (by unfold execOp; go_simp) ?_
  simp only [Act.put, List.setIfInBounds_toArray, List.set_cons_zero, List.set_cons_succ]
  refine Tree.p_field rfl _ _ _ rfl (gk) (k * 7) rfl Tryz.underlying93 rfl (sz := 1) (by kernel_rfl) (by decide) (k * 7 + 4) rfl ?_
  simp only [Act.put, List.setIfInBounds_toArray, List.set_cons_zero, List.set_cons_succ]
  refine Tree.p_load1 rfl _ _ rfl (gk) (k * 7 + 4) rfl (fv bf) (K4.out.c k hk 4 _ (HB.out d)) Tryz.underlying90 rfl ?_
  simp only [Act.put, List.setIfInBounds_toArray, List.set_cons_zero, List.set_cons_succ]
  refine Step.p_move rfl _ rfl (.pointer (some ⟨w2.heap.size + 1, 0, none⟩)) rfl ?_
  simp only [Act.put, List.setIfInBounds_toArray, List.set_cons_zero, List.set_cons_succ]
  refine Step.p_wp rfl (Step.w_callv _ _ _ rfl bf [] rfl p1 p2 p3 [.pointer (some ⟨w2.heap.size + 1, 0, none⟩)] rfl (BT2.out F hFb (w2.heap.size + 1) w2.heap.size gk d cs4 w4 Y4.out C4.out A4.out K4.out (HR.out.below B4.out) (fun sf e w2 h1 h2 h3 => ST2.out F hFb sf e _ _ w2 h1 h2 h3)) ?_)
  rintro e w5 ⟨rfl, ⟨f1, a1, c1, f2, a2, c2, h5c, h5a, h5b, h5s, h5u⟩, h5g⟩
  refine ⟨_, rfl, ?_⟩
  simp only [Act.put, List.setIfInBounds_toArray, List.set_cons_zero, List.set_cons_succ]
  refine wpList_nil ?_
  have hl4 : w2.heap.size < w4.heap.size := (Array.getElem?_eq_some_iff.1 C4.out).1
  have C5 := (h5g.block w2.heap.size hl4 (by simp)).trans C4.out
  have A5 := A4.out.kq (Kq.of_gb Y4.out (by decide) (by decide) (fun z e => by cases e) h5g)
  have K5 := KindsAt_gb K4.out h5g (by omega) (by omega)
  have B5 := B4.out.grown h5g B4.out.size (fun j hj => by cases hj; omega)
  have HF : Hid (CiphG k (w2.heap.size + 1) loose (iv F) (S F) (O F) w5 ∧ Below w.heap.size w w5) := Lib.hid ⟨⟨hk, HL.out, w2.heap.size, gk, d, f1, a1, c1, f2, a2, c2, h5c, ⟨cs4, C5, A5.wip⟩, K5, h5a, h5b, h5s, h5u, fun sf e => ST2.out F hFb sf e _ _ w5 C5 A5 (HR.out.below B5)⟩, B5⟩
  clear h5c h5s h5u h5g C5 A5 K5 B5 h5a h5b
  go_wp2
  go_ret2
  exact ⟨_, F, rfl, hFb, HF.out⟩
end Go.Proofs.YtmifebcaifbmoaaGreatDoor.G
end

/- Pl1 -/
section
namespace Go.Proofs.YtmifebcaifbmoaaGreatDoor.G
open Go.Proofs.YtmifebcaifbmoaaGreatDoor.Poly Go.Proofs.YtmifebcaifbmoaaGreatDoor.Tw

/-- the tweak of block j -/
def dblK (t : Nat) : Nat → Nat
  | 0 => t
  | j + 1 => dblN (dblK t j)
/-- a block between two additions -/
def msk (E : Nat → Nat) (t b : Nat) : Nat := E (b ^^^ t) ^^^ t
/-- the bytes behind k blocks, each by its place -/
def blkF (B : Nat → Nat → Nat) (f : Nat → Nat) (k i : Nat) : Nat := if i / 16 < k then byt (B (i / 16) (blkN f (i / 16))) (i % 16) else f i
theorem blkF_lt {B : Nat → Nat → Nat} {f : Nat → Nat} (hf : ∀ i, f i < 256) (k i : Nat) : blkF B f k i < 256 := by
  unfold blkF
  split
  · exact byt_lt _ _
  · exact hf i
theorem blkF_zero (B : Nat → Nat → Nat) (f : Nat → Nat) (i : Nat) : blkF B f 0 i = f i := by
  unfold blkF
  rw [if_neg (Nat.not_lt_zero _)]
theorem blkF_blk (B : Nat → Nat → Nat) (f : Nat → Nat) (k : Nat) : blkN (blkF B f k) k = blkN f k := by
  refine lowN_congr fun i hi => ?_
  unfold blkF
  rw [if_neg (by omega)]
theorem blkF_put (B : Nat → Nat → Nat) (f : Nat → Nat) (k i : Nat) : putF (blkF B f k) k (B k (blkN f k)) i = blkF B f (k + 1) i := by
  unfold putF blkF
  by_cases h : 16 * k ≤ i ∧ i < 16 * k + 16
  · rw [if_pos h, if_pos (by omega), show i / 16 = k by omega, show i % 16 = i - 16 * k by omega]
  · rw [if_neg h]
    by_cases h2 : i / 16 < k
    · rw [if_pos h2, if_pos (by omega)]
    · rw [if_neg h2, if_neg (by omega)]
/-- XTS' blocks -/
def xtsB (E : Nat → Nat) (t j b : Nat) : Nat := msk E (dblK t j) b
/-- the tweaks of the block that is stolen from, and of the last one -/
def xts1 (back : Bool) (t m : Nat) : Nat := if back then dblK t m else dblK t (m - 1)
def xts2 (back : Bool) (t m : Nat) : Nat := if back then dblK t (m - 1) else dblK t m
/-- the block that is stolen from -/
def xtsQ (E : Nat → Nat) (back : Bool) (t m : Nat) (f : Nat → Nat) : Nat := msk E (xts1 back t m) (blkN f (m - 1))
/-- the last block -/
def xtsL (E : Nat → Nat) (back : Bool) (t m r : Nat) (f : Nat → Nat) : Nat := lowN (fun i => if i < r then f (16 * m + i) else byt (xtsQ E back t m f) i) 16
/-- what XTS makes of a sector -/
def xtsF (E : Nat → Nat) (back : Bool) (t n : Nat) (f : Nat → Nat) (i : Nat) : Nat :=
  if n % 16 = 0 then blkF (xtsB E t) f (n / 16) i
  else if i < 16 * (n / 16 - 1) then blkF (xtsB E t) f (n / 16 - 1) i
  else if i < 16 * (n / 16) then byt (msk E (xts2 back t (n / 16)) (xtsL E back t (n / 16) (n % 16) f)) (i - 16 * (n / 16 - 1))
  else byt (xtsQ E back t (n / 16) f) (i - 16 * (n / 16))
/-- CBC's last block -/
def cbcL (E : Nat → Nat) (iv : Nat) (f : Nat → Nat) : Nat → Nat
  | 0 => iv
  | k + 1 => E (blkN f k ^^^ cbcL E iv f k)
def cbcS (E : Nat → Nat) (iv n : Nat) (f : Nat → Nat) : Nat → Nat := blkF (fun j _ => cbcL E iv f (j + 1)) f (n / 16)
/-- what is added behind a block -/
def cbcP (iv : Nat) (f : Nat → Nat) (j : Nat) : Nat := if j = 0 then iv else blkN f (j - 1)
def cbcO (D : Nat → Nat) (iv n : Nat) (f : Nat → Nat) : Nat → Nat := blkF (fun j x => D x ^^^ cbcP iv f j) f (n / 16)
end Go.Proofs.YtmifebcaifbmoaaGreatDoor.G
end

/- RS -/
section
namespace Go.Proofs.YtmifebcaifbmoaaGreatDoor.RS
open Go.RowKit Go.Lib Go.Proofs.YtmifebcaifbmoaaGreatDoor.Blk Go.Proofs.YtmifebcaifbmoaaGreatDoor.Poly Go.Proofs.YtmifebcaifbmoaaGreatDoor.Field Go.Proofs.YtmifebcaifbmoaaGreatDoor.Tw Go.Proofs.YtmifebcaifbmoaaGreatDoor.G

theorem z16 : (Tryz.prog.info? 27).bind (·.zero) = some (.agg (arr .u8 16 fun _ => 0)) := by kernel_rfl
/-- only block g changed of those that were; own blocks, with their numbers -/
structure RS (g : Nat) (l : List (Nat × Nat)) (w w' : World) : Prop where
  gb : w.grownBy w' (some g)
  own : ∀ p ∈ l, Arr w' p.1 .u8 16 27 (fun i => ((byt p.2 i : Nat) : Int)) ∧ w.heap.size ≤ p.1
  nd : (l.map Prod.fst).Nodup
  gl : g < w.heap.size
structure RZ (g n : Nat) (F : Nat → Nat) (l : List (Nat × Nat)) (w w' : World) : Prop where
  rs : RS g l w w'
  sec : Sec w' g n F
variable {g n : Nat} {F : Nat → Nat} {l : List (Nat × Nat)} {w w1 w2 : World}
theorem RS.tail {p : Nat × Nat} (h : RS g (p :: l) w w1) : RS g l w w1 := ⟨h.gb, fun q hq => h.own q (.tail _ hq), (List.nodup_cons.1 h.nd).2, h.gl⟩
theorem RZ.start (h : Sec w g n F) : RZ g n F [] w w := ⟨⟨gb_refl w _, (fun _ hm => by cases hm), List.nodup_nil, h.lt⟩, h⟩
theorem RS.bel (h : RS g l w w1) (hb : Below w1.heap.size w1 w2) : RS g l w w2 := ⟨gb_bel h.gb hb, fun p hp => ⟨Rj.bel_arr (_B := 0) (h.own p hp).1 hb, (h.own p hp).2⟩, h.nd, h.gl⟩
theorem RZ.bel (h : RZ g n F l w w1) (hb : Below w1.heap.size w1 w2) : RZ g n F l w w2 := ⟨h.rs.bel hb, h.sec.below hb⟩
theorem RZ.drew (h : RZ g n F l w w1) : RZ g n F l w w1.drew := h.bel (Below.refl _ _).drew
theorem RZ.put {F2 : Nat → Nat} (h : RZ g n F l w w1) (hg : w1.grownBy w2 (some g)) (hs : Sec w2 g n F2) : RZ g n F2 l w w2 :=
  ⟨⟨gb_trans h.rs.gb hg, fun p hp => ⟨(h.rs.own p hp).1.grown hg (by have := (h.rs.own p hp).2; have := h.rs.gl; omega), (h.rs.own p hp).2⟩, h.rs.nd, h.rs.gl⟩, hs⟩
theorem RZ.new {b : Nat} (h : RZ g n F l w w1) (hb : w1.heap.size = b) (ha : Arr w2 b .u8 16 27 (fun _ => 0)) (hg : w1.grownBy w2 none) : RZ g n F ((b, 0) :: l) w w2 := by
  have bl : Below w1.heap.size w1 w2 := ⟨hg.os, hg.tape, hg.output, hg.size, fun k hk => hg.block k hk (by simp)⟩
  have h2 := h.bel bl
  refine ⟨⟨h2.rs.gb, fun p hp => ?_, ?_, h.rs.gl⟩, h2.sec⟩
  · rcases List.mem_cons.1 hp with rfl | hp
    · exact ⟨ha.congr fun i _ => by simp [byt], by rw [← hb]; exact h.rs.gb.size⟩
    · exact h2.rs.own p hp
  · refine List.nodup_cons.2 ⟨fun hm => ?_, h.rs.nd⟩
    obtain ⟨p, hp, e⟩ := List.mem_map.1 hm
    have := (h.rs.own p hp).1.lt
    simp only at e
    omega
theorem sec_other {c : Nat} (h : Sec w1 g n F) (hg : w1.grownBy w2 (some c)) (hne : g ≠ c) : Sec w2 g n F := by
  obtain ⟨cur, c1, c2⟩ := h.c
  exact ⟨cur, (hg.block g (Array.getElem?_eq_some_iff.1 c1).1 (fun e => by cases e; exact hne rfl)).trans c1, c2⟩
theorem RZ.storeL {l1 l2 : List (Nat × Nat)} {b x y : Nat} (h : RZ g n F (l1 ++ (b, x) :: l2) w w1) (ha : Arr w2 b .u8 16 27 (fun i => ((byt y i : Nat) : Int))) (hg : w1.grownBy w2 (some b)) : RZ g n F (l1 ++ (b, y) :: l2) w w2 := by
  have hb := (h.rs.own (b, x) (by simp)).2
  have hgl := h.rs.gl
  simp only at hb
  have nd : ((l1 ++ (b, y) :: l2).map Prod.fst).Nodup := by
    have := h.rs.nd
    simpa only [List.map_append, List.map_cons] using this
  refine ⟨⟨⟨hg.os.trans h.rs.gb.os, hg.tape.trans h.rs.gb.tape, hg.output.trans h.rs.gb.output, Nat.le_trans h.rs.gb.size hg.size, fun j hj hne => (hg.block j (Nat.lt_of_lt_of_le hj h.rs.gb.size) (fun e => by cases e; omega)).trans (h.rs.gb.block j hj hne)⟩, fun p hp => ?_, nd, hgl⟩, sec_other h.sec hg (by omega)⟩
  have nd2 := h.rs.nd
  simp only [List.map_append, List.map_cons] at nd2
  obtain ⟨_, n2, n3⟩ := List.nodup_append.1 nd2
  have n4 := (List.nodup_cons.1 n2).1
  rcases List.mem_append.1 hp with hp | hp
  · refine ⟨((h.rs.own p (by simp [hp])).1).grown hg (fun e => ?_), (h.rs.own p (by simp [hp])).2⟩
    exact n3 p.1 (List.mem_map.2 ⟨p, hp, rfl⟩) b (by simp) e
  · rcases List.mem_cons.1 hp with rfl | hp
    · exact ⟨ha, hb⟩
    · refine ⟨((h.rs.own p (by simp [hp])).1).grown hg (fun e => ?_), (h.rs.own p (by simp [hp])).2⟩
      exact n4 (List.mem_map.2 ⟨p, hp, e⟩)
theorem RZ.store0 {b x y : Nat} (h : RZ g n F ((b, x) :: l) w w1) (ha : Arr w2 b .u8 16 27 (fun i => ((byt y i : Nat) : Int))) (hg : w1.grownBy w2 (some b)) : RZ g n F ((b, y) :: l) w w2 := RZ.storeL (l1 := []) h ha hg
theorem RZ.store1 {p : Nat × Nat} {b x y : Nat} (h : RZ g n F (p :: (b, x) :: l) w w1) (ha : Arr w2 b .u8 16 27 (fun i => ((byt y i : Nat) : Int))) (hg : w1.grownBy w2 (some b)) : RZ g n F (p :: (b, y) :: l) w w2 := RZ.storeL (l1 := [p]) h ha hg
theorem RZ.congr {F2 : Nat → Nat} (h : RZ g n F l w w1) (e : ∀ i, i < n → F i = F2 i) : RZ g n F2 l w w1 := ⟨h.rs, h.sec.congr e⟩
theorem RZ.kp (h : RZ g n F l w w1) {m : Nat} {F0 : Nat → Nat} (hS : Sec w g m F0) (hm : 0 < m) (hg : g ≠ 2) : Kp w w1 := Kp.of_gb hS hm hg h.rs.gb
section
variable {P : Program} {a : Act} {w : World} {o : Oper} {K : Act → World → Prop} {Q : Exit → Act → World → Prop}
theorem w_store (ty : TypeId) (x y : Operand) (ho : o.op = .store ty x y) (b : Nat) {k : IntKind} {n : Nat} {f f0 : Nat → Int} (hx : a.eval x = .pointer (some ⟨b, 0, none⟩)) (hy : a.eval y = .agg (arr k n f))
    {t : TypeId} (hA : Arr w b k n t f0) (hi : (P.info? ty).map (·.size) = some n) (h : ∀ w', Arr w' b k n t f → w.grownBy w' (some b) → w'.heap.size = w.heap.size → K (a.put o.dst undef) w') : o.wp P a w K Q :=
  wp_store_row ty x y ho b _ hx hy _ _ hA (by rw [arr_size]; exact hi) (by rw [arr_size, arr_size]) (arr_one _ _ _) (h _ (Rj.Arr_of_row hA) (Rj.gb_setRow w b _) (by simp))
end
section
variable {P : Program} {Q : Exit → Act → World → Prop} {S : World → Prop} {a : Act} {w : World} {fuel : Nat} {listed : Array Bool}
end
section
variable {P : Program} {a : Act} {w : World} {o : Oper} {K : Act → World → Prop} {Q : Exit → Act → World → Prop}
end
section
variable {P : Program} {w : World}
/-- the beginning of an array behind a pointer -/
theorem run_sliceHi {t e : TypeId} {n : Nat} (hu : P.underlying t = some (.array n e)) (hi' : (P.info? e).map (·.size) = some 1) (b hi : Nat) (hn : 0 < n) (hhn : hi ≤ n) : (Instr.sliceAt t (.pointer (some ⟨b, 0, none⟩)) none (some (.int .i64 hi)) none).run P w = .ok (.slice (some ⟨b, 0, none⟩) hi n) w := by
  cases hie : P.info? e with
  | none => simp [hie] at hi'
  | some ie =>
    simp only [hie, Option.map_some, Option.some.injEq] at hi'
    have hs : (sizeOf e).run P w = .ok 1 w := by simp [sizeOf, typeInfo, hie, hi']
    have h3 : ¬ n = 0 := by omega
    simp [Instr.sliceAt, go_sem, run_underlying hu, hs, Instr.sliceBounds, Instr.sliceBound, Instr.sureAddr, asIntOf, hhn]
end
end Go.Proofs.YtmifebcaifbmoaaGreatDoor.RS
namespace Go.Proofs.YtmifebcaifbmoaaGreatDoor.RS
open Go.RowKit Go.Lib Go.Proofs.YtmifebcaifbmoaaGreatDoor.Blk Go.Proofs.YtmifebcaifbmoaaGreatDoor.Poly Go.Proofs.YtmifebcaifbmoaaGreatDoor.Field Go.Proofs.YtmifebcaifbmoaaGreatDoor.Tw Go.Proofs.YtmifebcaifbmoaaGreatDoor.G
/-- nothing of what was changed; own blocks, with their numbers -/
structure RB (l : List (Nat × Nat)) (w w' : World) : Prop where
  bel : Below w.heap.size w w'
  own : ∀ p ∈ l, Arr w' p.1 .u8 16 27 (fun i => ((byt p.2 i : Nat) : Int)) ∧ w.heap.size ≤ p.1
  nd : (l.map Prod.fst).Nodup
variable {l : List (Nat × Nat)} {w w1 w2 : World}
theorem RB.tail {p : Nat × Nat} (h : RB (p :: l) w w1) : RB l w w1 := ⟨h.bel, fun q hq => h.own q (.tail _ hq), (List.nodup_cons.1 h.nd).2⟩
theorem RB.start (w : World) : RB [] w w := ⟨Below.refl _ _, (fun _ hm => by cases hm), List.nodup_nil⟩
theorem RB.bel_ (h : RB l w w1) (hb : Below w1.heap.size w1 w2) : RB l w w2 := ⟨h.bel.trans (hb.mono h.bel.size), fun p hp => ⟨Rj.bel_arr (_B := 0) (h.own p hp).1 hb, (h.own p hp).2⟩, h.nd⟩
theorem RB.drew (h : RB l w w1) : RB l w w1.drew := h.bel_ (Below.refl _ _).drew
theorem RB.new {b : Nat} (h : RB l w w1) (hb : w1.heap.size = b) (ha : Arr w2 b .u8 16 27 (fun _ => 0)) (hg : w1.grownBy w2 none) : RB ((b, 0) :: l) w w2 := by
  have bl : Below w1.heap.size w1 w2 := ⟨hg.os, hg.tape, hg.output, hg.size, fun k hk => hg.block k hk (by simp)⟩
  have h2 := h.bel_ bl
  refine ⟨h2.bel, fun p hp => ?_, ?_⟩
  · rcases List.mem_cons.1 hp with rfl | hp
    · exact ⟨ha.congr fun i _ => by simp [byt], by rw [← hb]; exact h.bel.size⟩
    · exact h2.own p hp
  · refine List.nodup_cons.2 ⟨fun hm => ?_, h.nd⟩
    obtain ⟨p, hp, e⟩ := List.mem_map.1 hm
    have := (h.own p hp).1.lt
    simp only at e
    omega
theorem RB.storeL {l1 l2 : List (Nat × Nat)} {b x y : Nat} (h : RB (l1 ++ (b, x) :: l2) w w1) (ha : Arr w2 b .u8 16 27 (fun i => ((byt y i : Nat) : Int))) (hg : w1.grownBy w2 (some b)) : RB (l1 ++ (b, y) :: l2) w w2 := by
  have hb := (h.own (b, x) (by simp)).2
  simp only at hb
  have nd : ((l1 ++ (b, y) :: l2).map Prod.fst).Nodup := by
    have := h.nd
    simpa only [List.map_append, List.map_cons] using this
  refine ⟨h.bel.grown hg h.bel.size (fun j hj => by cases hj; exact hb), fun p hp => ?_, nd⟩
  have nd2 := h.nd
  simp only [List.map_append, List.map_cons] at nd2
  obtain ⟨_, n2, n3⟩ := List.nodup_append.1 nd2
  have n4 := (List.nodup_cons.1 n2).1
  rcases List.mem_append.1 hp with hp | hp
  · refine ⟨((h.own p (by simp [hp])).1).grown hg (fun e => ?_), (h.own p (by simp [hp])).2⟩
    exact n3 p.1 (List.mem_map.2 ⟨p, hp, rfl⟩) b (by simp) e
  · rcases List.mem_cons.1 hp with rfl | hp
    · exact ⟨ha, hb⟩
    · refine ⟨((h.own p (by simp [hp])).1).grown hg (fun e => ?_), (h.own p (by simp [hp])).2⟩
      exact n4 (List.mem_map.2 ⟨p, hp, e⟩)
theorem RB.store0 {b x y : Nat} (h : RB ((b, x) :: l) w w1) (ha : Arr w2 b .u8 16 27 (fun i => ((byt y i : Nat) : Int))) (hg : w1.grownBy w2 (some b)) : RB ((b, y) :: l) w w2 := RB.storeL (l1 := []) h ha hg
theorem RB.store1 {p : Nat × Nat} {b x y : Nat} (h : RB (p :: (b, x) :: l) w w1) (ha : Arr w2 b .u8 16 27 (fun i => ((byt y i : Nat) : Int))) (hg : w1.grownBy w2 (some b)) : RB (p :: (b, y) :: l) w w2 := RB.storeL (l1 := [p]) h ha hg
theorem build0 (w : World) : (Instr.build 27 #[]).run Tryz.prog w = .ok (B16 0) w := by kernel_rfl
end Go.Proofs.YtmifebcaifbmoaaGreatDoor.RS
end

/- Md -/
section
namespace Go.Proofs.YtmifebcaifbmoaaGreatDoor.G
open Go.RowKit Go.Lib Go.Proofs.YtmifebcaifbmoaaGreatDoor.Blk Go.Proofs.YtmifebcaifbmoaaGreatDoor.Poly Go.Proofs.YtmifebcaifbmoaaGreatDoor.Field Go.Proofs.YtmifebcaifbmoaaGreatDoor.Tab Go.Proofs.YtmifebcaifbmoaaGreatDoor.Tw

/-- a cipher's blocks -/
structure RdW (k cb xb gk : Nat) (cs : Array Value) (w : World) : Prop where
  cb : ∃ sl un, w.heap[cb]? = some (.cells #[.pointer (some ⟨xb, 0, none⟩), .pointer (some ⟨gk, k * 7, none⟩), sl, un] 80 (0, 0))
  xb : w.heap[xb]? = some (.cells cs 96 (0, 0))
  kd : ∃ d, KindsAt gk d w
theorem RdW.kp {k cb xb gk : Nat} {cs : Array Value} {w w' : World} (h : RdW k cb xb gk cs w) (q : Kp w w') : RdW k cb xb gk cs w' := by
  obtain ⟨s, u, e⟩ := h.cb
  obtain ⟨d, hd⟩ := h.kd
  exact ⟨⟨s, u, q.cells e (by decide)⟩, q.cells h.xb (by decide), d, hd.kp q⟩
theorem RdW.c0 {k cb xb gk : Nat} {cs : Array Value} {w : World} (h : RdW k cb xb gk cs w) : w.cell? ⟨cb, 0, none⟩ = some (.pointer (some ⟨xb, 0, none⟩)) := by
  obtain ⟨s, u, e⟩ := h.cb
  rw [cell_of_row w _ _ _ _ _ e]
  rfl
theorem RdW.c1 {k cb xb gk : Nat} {cs : Array Value} {w : World} (h : RdW k cb xb gk cs w) : w.cell? ⟨cb, 1, none⟩ = some (.pointer (some ⟨gk, k * 7, none⟩)) := by
  obtain ⟨s, u, e⟩ := h.cb
  rw [cell_of_row w _ _ _ _ _ e]
  rfl
theorem kind3 (d : Nat) : ∀ k, k < 17 → (kindL d k)[3]? = (kindL 0 k)[3]?
  | 0, _ | 1, _ | 2, _ | 3, _ | 4, _ | 5, _ | 6, _ | 7, _ | 8, _ | 9, _ | 10, _ | 11, _ | 12, _ | 13, _ | 14, _ | 15, _ | 16, _ => rfl
  | k + 17, hk => absurd hk (by omega)
theorem RdW.ks {k cb xb gk : Nat} {cs : Array Value} {w : World} (h : RdW k cb xb gk cs w) (hk : k < 17) {v : Value} (hv : (kindL 0 k)[3]? = some v) : w.cell? ⟨gk, k * 7 + 3, none⟩ = some v := by
  obtain ⟨d, hd⟩ := h.kd
  exact hd.c k hk 3 v ((kind3 d k hk).trans hv)
theorem RdW.cx {k cb xb gk : Nat} {cs : Array Value} {w : World} (h : RdW k cb xb gk cs w) {i : Nat} {v : Value} (hv : cs[i]? = some v) : w.cell? ⟨xb, i, none⟩ = some v := by
  rw [cell_of_row w _ _ _ _ _ h.xb]
  exact hv
/-- all that a mode's function leans on -/
structure Md (k cb xb gk : Nat) (E D A : Nat → Nat) (two : Bool) (fl wh : Nat → Nat) (cs : Array Value) (iv : Nat → Nat → Nat) (w : World) : Prop where
  hk : k < 17
  rd : RdW k cb xb gk cs w
  ky : KeyR E D A two fl wh cs w
  st : ∀ sf, (kindL 0 k)[3]? = some (fv sf) → FnOk sf ∧ StAt sf xb iv w
theorem Md.kp {k cb xb gk : Nat} {E D A : Nat → Nat} {two : Bool} {fl wh : Nat → Nat} {cs : Array Value} {iv : Nat → Nat → Nat} {w w' : World} (h : Md k cb xb gk E D A two fl wh cs iv w) (q : Kp w w') : Md k cb xb gk E D A two fl wh cs iv w' :=
  ⟨h.hk, h.rd.kp q, h.ky.kq q.q, fun sf e => ⟨(h.st sf e).1, (h.st sf e).2.kp q⟩⟩
end Go.Proofs.YtmifebcaifbmoaaGreatDoor.G
end

/- Cipher2 -/
section
namespace Go.Proofs.YtmifebcaifbmoaaGreatDoor.Aes
open Go

theorem coefDE : ∀ j, j < 4 → ∀ r, r < 4 → ∀ x, x < 256 → (gm (gm x (mD ((4 - r) % 4))) (mE (j % 4)) ^^^ gm (gm x (mD ((5 - r) % 4))) (mE ((j + 3) % 4)) ^^^ gm (gm x (mD ((6 - r) % 4))) (mE ((j + 2) % 4)) ^^^ gm (gm x (mD ((7 - r) % 4))) (mE ((j + 1) % 4))) = if j = r then x else 0 := by decide +kernel
theorem xor_shuffle (a0 a1 a2 a3 b0 b1 b2 b3 c0 c1 c2 c3 d0 d1 d2 d3 : Nat) :
    (a0 ^^^ a1 ^^^ a2 ^^^ a3) ^^^ (b0 ^^^ b1 ^^^ b2 ^^^ b3) ^^^ (c0 ^^^ c1 ^^^ c2 ^^^ c3) ^^^ (d0 ^^^ d1 ^^^ d2 ^^^ d3) = (a0 ^^^ b0 ^^^ c0 ^^^ d0) ^^^ (a1 ^^^ b1 ^^^ c1 ^^^ d1) ^^^ (a2 ^^^ b2 ^^^ c2 ^^^ d2) ^^^ (a3 ^^^ b3 ^^^ c3 ^^^ d3) := by
  simp only [Nat.xor_comm, xlc]
/-- one matrix undoes the other -/
theorem col_inv {m n : Nat → Nat} (hc : ∀ j, j < 4 → ∀ r, r < 4 → ∀ x, x < 256 → (gm (gm x (m ((4 - r) % 4))) (n (j % 4)) ^^^ gm (gm x (m ((5 - r) % 4))) (n ((j + 3) % 4)) ^^^ gm (gm x (m ((6 - r) % 4))) (n ((j + 2) % 4)) ^^^ gm (gm x (m ((7 - r) % 4))) (n ((j + 1) % 4))) = if j = r then x else 0)
    {x : Nat → Nat} (hx : Byt x 4) (j : Nat) (hj : j < 4) : colB n (colB m x) j = x j := by
  have h0 := hx 0 (by decide)
  have h1 := hx 1 (by decide)
  have h2 := hx 2 (by decide)
  have h3 := hx 3 (by decide)
  have g : ∀ k l, gm (colB m x k) l = gm (gm (x 0) (m (k % 4))) l ^^^ gm (gm (x 1) (m ((k + 3) % 4))) l ^^^ gm (gm (x 2) (m ((k + 2) % 4))) l ^^^ gm (gm (x 3) (m ((k + 1) % 4))) l := fun k l => by
    unfold colB
    rw [gm_xor _ _ _ (xor_lt (xor_lt (gm_lt _ _ h0) (gm_lt _ _ h1)) (gm_lt _ _ h2)) (gm_lt _ _ h3), gm_xor _ _ _ (xor_lt (gm_lt _ _ h0) (gm_lt _ _ h1)) (gm_lt _ _ h2), gm_xor _ _ _ (gm_lt _ _ h0) (gm_lt _ _ h1)]
  have e : colB n (colB m x) j = gm (colB m x 0) (n (j % 4)) ^^^ gm (colB m x 1) (n ((j + 3) % 4)) ^^^ gm (colB m x 2) (n ((j + 2) % 4)) ^^^ gm (colB m x 3) (n ((j + 1) % 4)) := rfl
  rw [e, g, g, g, g, xor_shuffle]
  have c0 := hc j hj 0 (by decide) (x 0) h0
  have c1 := hc j hj 1 (by decide) (x 1) h1
  have c2 := hc j hj 2 (by decide) (x 2) h2
  have c3 := hc j hj 3 (by decide) (x 3) h3
  simp only [Nat.reduceAdd, Nat.reduceSub, Nat.reduceMod] at c0 c1 c2 c3 ⊢
  rw [c0, c1, c2, c3]
  match j, hj with
  | 0, _ => simp
  | 1, _ => simp
  | 2, _ => simp
  | 3, _ => simp
theorem cols_DE {s : Nat → Nat} (hs : Byt s 16) : ∀ i, i < 16 → colsB mE (colsB mD s) i = s i := fun i hi => by
  have h : ∀ r, r < 4 → colsB mD s (4 * (i / 4) + r) = colB mD (fun q => s (4 * (i / 4) + q)) r := fun r hr => by
    unfold colsB
    rw [show (4 * (i / 4) + r) / 4 = i / 4 by omega, show (4 * (i / 4) + r) % 4 = r by omega]
  rw [colsB, colB_congr h, col_inv coefDE (fun r hr => hs _ (by omega)) _ (by omega)]
  congr 1
  omega
theorem row_SU {s : Nat → Nat} (hs : Byt s 16) : ∀ i, i < 16 → rowB S 1 (rowB U 3 s) i = s i := fun i hi => by
  unfold rowB
  rw [SU _ (hs _ (by omega))]
  congr 1
  omega
theorem xor_back (a b : Nat) : a ^^^ b ^^^ b = a := by rw [Nat.xor_assoc, Nat.xor_self, Nat.xor_zero]

section
variable {k : Nat → Nat → Nat} {nr : Nat}
/-- the other way round: the cipher's states behind a block that was decrypted -/
theorem enc_dec_st (h1 : 1 ≤ nr) (hk : ∀ r, r ≤ nr → Byt (k r) 16) {b : Nat → Nat} (hb : Byt b 16) : ∀ t, t < nr → ∀ i, i < 16 → stR mE S 1 k (decB k nr b) t i = rowB U 3 (stR mD U 3 (backK k nr) b (nr - 1 - t)) i
  | 0, _, i, hi => by
    rw [stR]
    dsimp only
    rw [decB, thrB, backK, if_neg (by omega), Nat.sub_self, Nat.sub_zero]
    exact xor_back _ _
  | t + 1, ht, i, hi => by
    have ih := enc_dec_st h1 hk hb t (by omega)
    have hst : ∀ r, r ≤ nr → Byt (stR mD U 3 (backK k nr) b r) 16 := fun r hr => stR_byt U_byt hb (backK_byt hk) r hr
    have e1 : ∀ i, i < 16 → rowB S 1 (stR mE S 1 k (decB k nr b) t) i = stR mD U 3 (backK k nr) b (nr - 1 - t) i := fun i hi => by
      rw [rowB_congr ih i hi, row_SU (hst _ (by omega)) i hi]
    obtain ⟨q, hq⟩ : ∃ q, nr - 1 - t = q + 1 := ⟨nr - 2 - t, by omega⟩
    have e2 : ∀ i, i < 16 → rowB S 1 (stR mE S 1 k (decB k nr b) t) i = colsB mD (fun i => rowB U 3 (stR mD U 3 (backK k nr) b q) i ^^^ k (t + 1) i) i := fun i hi => by
      rw [e1 i hi, hq, stR]
      dsimp only
      rw [backK, if_pos (by omega), show nr - (q + 1) = t + 1 by omega, colsB_xor (rowB_byt U_byt (hst _ (by omega))) (hk _ (by omega)) i hi]
    rw [stR]
    dsimp only
    rw [colsB_congr e2 i hi, cols_DE (byt_xor (rowB_byt U_byt (hst _ (by omega))) (hk _ (by omega))) i hi, show nr - 1 - (t + 1) = q by omega]
    exact xor_back _ _
/-- what is decrypted is encrypted as it was -/
theorem enc_dec (h1 : 1 ≤ nr) (hk : ∀ r, r ≤ nr → Byt (k r) 16) {b : Nat → Nat} (hb : Byt b 16) : ∀ i, i < 16 → encB k nr (decB k nr b) i = b i := fun i hi => by
  have h := enc_dec_st h1 hk hb (nr - 1) (by omega)
  rw [encB, thrB, rowB_congr h i hi, Nat.sub_self, row_SU (stR_byt U_byt hb (backK_byt hk) 0 (by omega)) i hi, stR]
  dsimp only
  rw [backK, if_neg (by omega), Nat.sub_zero]
  exact xor_back _ _
end
end Go.Proofs.YtmifebcaifbmoaaGreatDoor.Aes
end
