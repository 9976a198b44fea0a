/- Parts of the proof of TweakBlocks. Parts2: tweak: digestPart's function, digestTwo: keys and digests of keys laid into a core. FromDig: tweak: fromDigest, fromSeed: what a sector begins with. -/
import Derived.Test.YtmifebcaifbmoaaGreatDoorL00
import Derived.Test.YtmifebcaifbmoaaGreatDoorL28
import Derived.Test.YtmifebcaifbmoaaGreatDoorL34
/- Parts2 -/
section
namespace Go.Proofs.YtmifebcaifbmoaaGreatDoor.G
open Go.RowKit Go.Lib Go.Proofs.YtmifebcaifbmoaaGreatDoor.Blk Go.Proofs.YtmifebcaifbmoaaGreatDoor.Aes Go.Proofs.YtmifebcaifbmoaaGreatDoor.Rj Go.Proofs.YtmifebcaifbmoaaGreatDoor.Poly Go.Proofs.YtmifebcaifbmoaaGreatDoor.Field Go.Proofs.YtmifebcaifbmoaaGreatDoor.Tab Go.Proofs.YtmifebcaifbmoaaGreatDoor.Tw Go.Proofs.YtmifebcaifbmoaaGreatDoor.RS Go.Proofs.YtmifebcaifbmoaaGreatDoor.Dig
section
variable {P : Program} {a : Act} {w : World} {o : Oper} {K : Act → World → Prop} {Q : Exit → Act → World → Prop}
/-- a list of one slice is made -/
theorem w_litS (t e : TypeId) (x : Operand) (ho : o.op = .buildSlice t 1 #[(0, x)]) (q : Option Addr) (n c : Nat) (hx : a.eval x = .slice q n c) (hu : P.underlying t = some (.slice e)) (hi : (P.info? e).map (·.size) = some 1) (hz : ((P.info? e).bind (·.zero)).isSome = true)
    (h : K (a.put o.dst (.slice (some ⟨w.heap.size, 0, none⟩) 1 1)) (w.alloc (.cells #[.slice q n c] e))) : o.wp P a w K Q := by
  cases hie : P.info? e with
  | none => simp [hie] at hi
  | some ie =>
    simp only [hie, Option.map_some, Option.some.injEq, Option.bind_some] at hi hz
    obtain ⟨z, hzz⟩ := Option.isSome_iff_exists.1 hz
    refine wp_buildSlice t e 1 _ ho _ ie z hu hie hzz (by rw [hi]; omega) (by rw [hi]; omega) ?_ h
    simp only [List.map_toArray, List.map_cons, List.map_nil, hx, hi]
    have := Great.fill_whole (s := 1) (by omega) [.slice q n c] ((Array.range (1 * 1)).map (z.cells[· % z.cells.size]!)) (fun v hv => by simp only [List.mem_singleton] at hv; subst hv; simp [Value.cells]) (by simp)
    simpa [Value.cells] using this
end
/-- what the digest of a key asks -/
structure DgW (w : World) : Prop where
  cu : WordsAt 7 80 w
  sq : WordsAt 6 16 w
theorem DgW.below {w w' : World} (h : DgW w) (b : Below w.heap.size w w') : DgW w' := ⟨h.cu.below b, h.sq.below b⟩
theorem DgW.gb {w w' : World} {c : Nat} (h : DgW w) (hg : w.grownBy w' (some c)) (h1 : 7 ≠ c) (h2 : 6 ≠ c) : DgW w' := ⟨h.cu.keep hg h1, h.sq.keep hg h2⟩
/-- the digest of a key's bytes -/
theorem keySum {w : World} {pb g off n cap : Nat} {key : Nat → Nat} (hn : n ≤ 1000) (hn0 : 0 < n) (hnc : n ≤ cap) (hcm : cap ≤ 9223372036854775807) (hc : KeyB w g off n key) (h : w.cell? ⟨pb, 0, none⟩ = some (.slice (some ⟨g, off, none⟩) n cap)) (hd : DgW w) :
    Calls Tryz.prog 117 #[.int .i64 256, .slice (some ⟨pb, 0, none⟩) 1 1] w fun e w' => (∃ v, e = .returned (.tuple #[v, .int .i64 0]) ∧ Out32 w.heap.size v w') ∧ Below w.heap.size w w' :=
  sum_any pb g off n cap (by omega) hnc hcm w (Frame.block_lt (hc 0 hn0)) h (fun i hi => ⟨g, off, rfl, Frame.block_lt (hc 0 hn0), _, hc i hi⟩) hd.cu hd.sq
/-- bytes laid into a core -/
theorem CZ.copy {xb : Nat} {cs : Array Value} {w w1 : World} (h : CZ xb cs w w1) (k : Nat) (F : Nat → Nat) (_hk : k + 16 ≤ cs.size) : CZ xb (Tree.patch cs k (Push.bl F 16)) w (w1.setRow xb (Tree.patch cs k (Push.bl F 16))) ∧ w1.grownBy (w1.setRow xb (Tree.patch cs k (Push.bl F 16))) (some xb) :=
  have hg : w1.grownBy (w1.setRow xb (Tree.patch cs k (Push.bl F 16))) (some xb) := ⟨rfl, rfl, rfl, by simp, fun b hb hne => setRow_other w1 xb b _ (fun e => hne (by rw [e]))⟩
  ⟨⟨setRow_heap _ _ _ _ _ _ h.hc, gb_trans h.gb hg⟩, hg⟩
theorem patch0 {cs : Array Value} {k : Nat} {F : Nat → Nat} (hk : k + 16 ≤ cs.size) (h1 : 1 ≤ k) : (Tree.patch cs k (Push.bl F 16))[0]? = cs[0]? := by
  rw [patch_get _ _ _ (by rw [Push.bl_len]; omega), if_neg (by omega)]
section
variable {P : Program} {a : Act} {w : World} {o : Oper} {K : Act → World → Prop} {Q : Exit → Act → World → Prop}
/-- 16 bytes copied into a core -/
theorem w_copyC (dT sT elem : TypeId) (x y : Operand) (ho : o.op = .call { callee := .builtin .copy, args := #[x, y], argTypes := #[dT, sT] }) (hu : P.underlying dT = some (.slice elem)) (hs : (P.info? elem).map (·.size) = some 1)
    (xb k : Nat) (hx : a.eval x = .slice (some ⟨xb, k, none⟩) 16 16) (g so sLen sCap : Nat) (hy : a.eval y = .slice (some ⟨g, so, none⟩) sLen sCap) (h16 : 16 ≤ sLen) {cs : Array Value} {w0 : World} {F : Nat → Nat} (hz : CZ xb cs w0 w) (hk : k + 16 ≤ cs.size) (hc : ∀ j, j < 16 → w.cell? ⟨g, so + j, none⟩ = some (.int .u8 (F j : Nat)))
    (h : ∀ w', CZ xb (Tree.patch cs k (Push.bl F 16)) w0 w' → w.grownBy w' (some xb) → K (a.put o.dst (.int .i64 16)) w') : o.wp P a w K Q := by
  refine Tw.w_copy dT sT elem x y ho hu hs xb k 16 16 hx ⟨g, so, none⟩ sLen sCap hy (Push.bl F 16) hz.hc (by rw [Push.bl_len]; exact (Nat.min_eq_right h16).symm) (fun j v hj => ?_) (by rw [Push.bl_len]; omega) (fun v hv => ?_) ?_
  · have hl : j < 16 := by have := (List.getElem?_eq_some_iff.1 hj).1; rwa [Push.bl_len] at this
    rw [Push.bl_get _ _ _ hl] at hj
    rw [Addr.add_mid, ← hj]
    exact hc j hl
  · obtain ⟨i, hi⟩ := List.mem_iff_getElem?.1 hv
    have hl : i < 16 := by have := (List.getElem?_eq_some_iff.1 hi).1; rwa [Push.bl_len] at this
    rw [Push.bl_get _ _ _ hl] at hi
    cases hi
    rfl
  · rw [Push.bl_len]
    exact h _ (hz.copy k F hk).1 (hz.copy k F hk).2
end
set_option maxRecDepth 100000 in
set_option maxHeartbeats 4000000 in
theorem digestTwo_any (key : Nat → Nat) (nk : Nat) (hnk : nk = 4 ∨ nk = 6 ∨ nk = 8) (hkey : Byt key (8 * nk)) (xb g off cap n : Nat) (cs : Array Value) (w : World) (hcb : w.heap[xb]? = some (.cells cs 96 (0, 0))) (hsz : cs.size = 37) (h0 : ∃ s, cs[0]? = some (.string s))
    (hc : KeyB w g off n key) (hgx : g ≠ xb) (hcap : n ≤ cap) (hcm : cap ≤ 9223372036854775807) (hR : RconAt w) (hrx : 2 ≠ xb) (hD : DgW w) (hx1 : 7 ≠ xb) (hx2 : 6 ≠ xb) (hn : n = 8 * nk) :
    Calls Tryz.prog 81 #[.pointer (some ⟨xb, 0, none⟩), .slice (some ⟨g, off, none⟩) n cap] w fun e w' => e = .returned (.tuple #[]) ∧ (∃ v z F, (∀ i, F i < 256) ∧ w'.heap[xb]? = some (.cells (Tree.patch (Tree.patch ((cs.setIfInBounds 2 v).setIfInBounds 3 z) 4 (Push.bl F 16)) 20 (Push.bl (fun i => F (16 + i)) 16)) 96 (0, 0)) ∧ Sched key nk v w' ∧ Sched (fun i => key (4 * nk + i)) nk z w') ∧ w.grownBy w' (some xb) := by
  have hn1 : 32 ≤ n ∧ n ≤ 64 := by omega
  have OP := Lib.hid (twoParts_any key nk hnk hkey xb g off cap cs w hcb hsz h0 (fun j hj => hc j (by omega)) hgx (by omega) hcm hR hrx)
  rw [← hn] at OP
  have KB := Lib.hid (fun w' (h : w.grownBy w' (some xb)) j hj => cell_gb h hgx (hc j hj))
  have DG := Lib.hid (fun w' (h : w.grownBy w' (some xb)) => hD.gb h hx1 hx2)
  clear hc hR hD hkey hnk hcb
  go_enter Tryz.func81, Tryz.ntmps81
  go_upto_region 0 with fail
  refine wp_region_lit ?_
  refine Step.p_move rfl _ rfl (.pointer (some ⟨xb, 0, none⟩)) rfl ?_
  simp only [Act.put, sA9, sB9, sC9]
  refine Step.p_move rfl _ rfl (.slice (some ⟨g, off, none⟩) n cap) rfl ?_
  simp only [Act.put, sA9, sB9, sC9]
  refine Step.p_wp rfl (Step.w_callx 75 _ _ rfl Tryz.func75 (by kernel_rfl) rfl [.pointer (some ⟨xb, 0, none⟩), .slice (some ⟨g, off, none⟩) n cap] rfl OP.out ?_)
  rintro e w2 ⟨rfl, ⟨v, z, hx, hs, ht⟩, hg2⟩
  refine ⟨_, rfl, ?_⟩
  simp only [Act.put, sA9, sB9, sC9]
  refine wpList_nil ?_
  have Z2 : Hid (CZ xb ((cs.setIfInBounds 2 v).setIfInBounds 3 z) w w2) := Lib.hid ⟨hx, hg2⟩
  have K2 := Lib.hid hs
  have J2 := Lib.hid ht
  clear hx hs ht hg2 OP
  go_upto_region 1 with fail
  refine wp_region_lit ?_
  refine Step.p_move rfl _ rfl (.slice (some ⟨g, off, none⟩) n cap) rfl ?_
  simp only [Act.put, sA9, sB9, sC9]
  refine Step.p_wp rfl (w_litS _ _ _ rfl (some ⟨g, off, none⟩) n cap rfl Tryz.underlying205 (by kernel_rfl) (by kernel_rfl) ?_)
  simp only [Act.put, sA9, sB9, sC9]
  have L3 : Hid ((w2.alloc (.cells #[.slice (some ⟨g, off, none⟩) n cap] 22)).cell? ⟨w2.heap.size, 0, none⟩ = some (.slice (some ⟨g, off, none⟩) n cap)) := Lib.hid (by rw [cell_of_row _ _ _ _ _ _ (heap_alloc_new w2 _)]; rfl)
  have b3 : Below w2.heap.size w2 (w2.alloc (.cells #[.slice (some ⟨g, off, none⟩) n cap] 22)) := (Below.refl _ _).alloc (Nat.le_refl _) _
  have Z3 := Lib.hid (Z2.out.bel b3)
  have K3 := Lib.hid (K2.out.kq (Kq.of_below b3))
  clear K2
  have J3 := Lib.hid (J2.out.kq (Kq.of_below b3))
  clear J2
  clear b3 Z2
  generalize w2.alloc (.cells #[.slice (some ⟨g, off, none⟩) n cap] 22) = w3 at *
  refine Step.p_wp rfl (Step.w_callx 117 _ _ rfl Tryz.func117 (by kernel_rfl) rfl [.int .i64 256, .slice (some ⟨w2.heap.size, 0, none⟩) 1 1] rfl (keySum (by omega) (by omega) hcap hcm (KB.out w3 Z3.out.gb) L3.out (DG.out w3 Z3.out.gb)) ?_)
  rintro e w4 ⟨⟨u, rfl, gs, F, rfl, hF, hk, hgs⟩, hb⟩
  refine ⟨_, rfl, ?_⟩
  simp only [Act.put, sA9, sB9, sC9]
  have Z4 := Lib.hid (Z3.out.bel hb)
  have K4 := Lib.hid (K3.out.kq (Kq.of_below hb))
  clear K3
  have J4 := Lib.hid (J3.out.kq (Kq.of_below hb))
  clear J3
  have HF := Lib.hid hF
  have HK := Lib.hid hk
  have hgx4 : gs ≠ xb := by have := Frame.block_lt (w := w3) (by rw [cell_of_row w3 xb 0 _ _ _ Z3.out.hc]; exact Array.getElem?_eq_getElem (by simp; omega)); omega
  clear hF hk hb L3 Z3
  refine Step.p_move rfl _ rfl (.tuple #[.slice (some ⟨gs, 0, none⟩) 32 32, .int .i64 0]) rfl ?_
  simp only [Act.put, sA9, sB9, sC9]
  refine Step.p_val rfl (.slice (some ⟨gs, 0, none⟩) 32 32) (by unfold execOp; go_simp; try rfl) ?_
  simp only [Act.put, sA9, sB9, sC9]
  refine Step.p_val rfl (.int .i64 0) (by unfold execOp; go_simp; try rfl) ?_
  simp only [Act.put, sA9, sB9, sC9]
  refine Step.p_assign rfl _ rfl (.slice (some ⟨gs, 0, none⟩) 32 32) rfl ?_
  simp only [Act.put, sA9, sB9, sC9]
  refine Step.p_assign rfl _ rfl (.int .i64 0) rfl ?_
  simp only [Act.put, sA9, sB9, sC9]
  refine wpList_nil ?_
  go_upto_region 2 with fail
  refine wp_region_lit ?_
  refine Step.p_move rfl _ rfl (.pointer (some ⟨xb, 0, none⟩)) rfl ?_
  simp only [Act.put, sA9, sB9, sC9]
  refine Step.p_val rfl (.pointer (some ⟨xb, 0, none⟩)) (by unfold execOp; go_simp; try rfl) ?_
  simp only [Act.put, sA9, sB9, sC9]
  refine Tree.p_field rfl _ _ _ rfl (xb) (0) rfl Tryz.underlying96 rfl (sz := 16) (by kernel_rfl) (by decide) (4) rfl ?_
  simp only [Act.put, sA9, sB9, sC9]
  refine Step.p_val rfl (.slice (some ⟨xb, 4, none⟩) 16 16) (by unfold execOp; go_simp; try rfl) ?_
  simp only [Act.put, sA9, sB9, sC9]
  refine Step.p_move rfl _ rfl (.slice (some ⟨gs, 0, none⟩) 32 32) rfl ?_
  simp only [Act.put, sA9, sB9, sC9]
  refine Step.p_wp rfl (w_copyC 22 22 5 _ _ rfl Tryz.underlying22 (by kernel_rfl) xb 4 rfl gs 0 32 32 rfl (by decide) (F := F) Z4.out (by simp; omega) (fun j hj => HK.out j (by omega)) ?_)
  intro w5 hz hg2
  simp only [Act.put, sA9, sB9, sC9]
  refine wpList_nil ?_
  have Z5 := Lib.hid hz
  have K5 := Lib.hid (K4.out.kq (Z4.out.kq (by simpa using h0) hg2))
  clear K4
  have J5 := Lib.hid (J4.out.kq (Z4.out.kq (by simpa using h0) hg2))
  clear J4
  have HK5 : Hid (KeyB w5 gs 0 32 F) := Lib.hid (fun j hj => cell_gb hg2 hgx4 (HK.out j hj))
  clear hz hg2 HK Z4
  go_upto_region 3 with fail
  refine wp_region_still_tail 6 (by kernel_rfl) (by kernel_rfl) ?_
  refine Still.s_move rfl _ rfl (.pointer (some ⟨xb, 0, none⟩)) rfl ?_
  simp only [Act.put, sA9, sB9, sC9]
  refine Still.s_val rfl (.pointer (some ⟨xb, 0, none⟩)) (by unfold execOp; go_simp; try rfl) ?_
  simp only [Act.put, sA9, sB9, sC9]
  refine Dig.s_field rfl _ _ _ rfl xb 0 rfl Tryz.underlying96 rfl (sz := 16) (by kernel_rfl) (by decide) 20 rfl ?_
  simp only [Act.put, sA9, sB9, sC9]
  refine Still.s_val rfl (.slice (some ⟨xb, 20, none⟩) 16 16) (by unfold execOp; go_simp; try rfl) ?_
  simp only [Act.put, sA9, sB9, sC9]
  refine Still.s_move rfl _ rfl (.slice (some ⟨gs, 0, none⟩) 32 32) rfl ?_
  simp only [Act.put, sA9, sB9, sC9]
  refine Still.s_val rfl (.slice (some ⟨gs, 16, none⟩) 16 16) (by unfold execOp; go_simp; try rfl) ?_
  simp only [Act.put, sA9, sB9, sC9]
  refine wpStill_nil ?_
  simp only [List.drop]
  change wpList _ _ _ _ _ w5.drew
  have Z5d : Hid (CZ xb (Tree.patch ((cs.setIfInBounds 2 v).setIfInBounds 3 z) 4 (Push.bl F 16)) w w5.drew) := Lib.hid Z5.out.drew
  clear Z5
  have K5d : Hid (Sched key nk v w5.drew) := Lib.hid (K5.out.kq (Kq.of_below (Below.refl _ _).drew))
  have J5d : Hid (Sched (fun i => key (4 * nk + i)) nk z w5.drew) := Lib.hid (J5.out.kq (Kq.of_below (Below.refl _ _).drew))
  clear K5 J5
  have hps : (Tree.patch ((cs.setIfInBounds 2 v).setIfInBounds 3 z) 4 (Push.bl F 16)).size = 37 := by rw [Tree.patch_size _ _ _ (by rw [Push.bl_len]; simp; omega)]; simpa using hsz
  refine Step.p_wp rfl (w_copyC 22 22 5 _ _ rfl Tryz.underlying22 (by kernel_rfl) xb 20 rfl gs 16 16 16 rfl (by decide) (F := fun i => F (16 + i)) Z5d.out (by omega) (fun j hj => by have := HK5.out (16 + j) (by omega); rw [Nat.zero_add] at this; exact this) ?_)
  intro w6 hz hg2
  simp only [Act.put, sA9, sB9, sC9]
  refine wpList_nil ?_
  have Z6 := Lib.hid hz
  have K6 := Lib.hid (K5d.out.kq (Z5d.out.kq (by rw [patch0 (by simp; omega) (by decide)]; simpa using h0) hg2))
  clear K5d
  have J6 := Lib.hid (J5d.out.kq (Z5d.out.kq (by rw [patch0 (by simp; omega) (by decide)]; simpa using h0) hg2))
  clear J5d
  clear hz hg2 Z5d
  go_wp2
  go_end0
  exact ⟨rfl, ⟨v, z, F, HF.out, Z6.out.hc, K6.out, J6.out⟩, Z6.out.gb⟩
end Go.Proofs.YtmifebcaifbmoaaGreatDoor.G
end

/- FromDig -/
section
namespace Go.Proofs.YtmifebcaifbmoaaGreatDoor.G
open Go.RowKit Go.Lib Go.Proofs.YtmifebcaifbmoaaGreatDoor.Blk Go.Proofs.YtmifebcaifbmoaaGreatDoor.Aes Go.Proofs.YtmifebcaifbmoaaGreatDoor.Rj Go.Proofs.YtmifebcaifbmoaaGreatDoor.Poly Go.Proofs.YtmifebcaifbmoaaGreatDoor.Field Go.Proofs.YtmifebcaifbmoaaGreatDoor.Tab Go.Proofs.YtmifebcaifbmoaaGreatDoor.Tw Go.Proofs.YtmifebcaifbmoaaGreatDoor.RS Go.Proofs.YtmifebcaifbmoaaGreatDoor.Push
/-- the digest out of a core's two parts -/
def sumF (fl wh : Nat → Nat) (i : Nat) : Nat := if i < 16 then fl i else wh (i - 16)
theorem bl_join (fl wh : Nat → Nat) : bl fl 16 ++ bl wh 16 = bl (sumF fl wh) 32 := by
  apply List.ext_getElem?
  intro i
  rcases Nat.lt_or_ge i 16 with h | h
  · rw [List.getElem?_append_left (by rw [bl_len]; exact h), bl_get _ _ _ h, bl_get _ _ _ (by omega)]
    unfold sumF
    rw [if_pos h]
  · rw [List.getElem?_append_right (by rw [bl_len]; exact h), bl_len]
    rcases Nat.lt_or_ge i 32 with h2 | h2
    · rw [bl_get _ _ _ (by omega), bl_get _ _ _ h2]
      unfold sumF
      rw [if_neg (by omega)]
    · rw [List.getElem?_eq_none (by rw [bl_len]; omega), List.getElem?_eq_none (by rw [bl_len]; omega)]
set_option maxRecDepth 100000 in
set_option maxHeartbeats 4000000 in
theorem fromDigest_any (xb s n : Nat) (hs : s < 2 ^ 64) (fl wh : Nat → Nat) (hfl : ∀ i, fl i < 256) (hwh : ∀ i, wh i < 256) (w : World) (hc : KeyB w xb 4 16 fl) (hd : KeyB w xb 20 16 wh) (hR : RconAt w) : Calls Tryz.prog 80 #[.pointer (some ⟨xb, 0, none⟩), .int .u64 s, .int .i64 n] w fun e w' => e = .returned (B16 (keyE (sumF fl wh) 8 s)) ∧ Below w.heap.size w w' := by
  obtain ⟨i0, hi, hz0, hz1, hz2⟩ := u8_info
  have LT := Lib.hid (fun w' => little0 s hs w')
  have HC := Lib.hid (fun w' (h : Below w.heap.size w w') j hj => cell_bel h (hc j hj))
  have HD := Lib.hid (fun w' (h : Below w.heap.size w w') j hj => cell_bel h (hd j hj))
  have HR := Lib.hid (fun w' (h : Below w.heap.size w w') => hR.below h)
  have hF : ∀ i, sumF fl wh i < 256 := fun i => by unfold sumF; split; exact hfl _; exact hwh _
  have Z0 := Lib.hid (RB.start w)
  clear hc hd hR
  go_enter Tryz.func80, Tryz.ntmps80
  go_upto_region 0 with fail
  refine wp_region_lit ?_
  refine New.p_newarr rfl 27 rfl .u8 16 RS.z16 ?_
  intro w1 ha hg2 _
  obtain ⟨q, hq⟩ : ∃ q, w.heap.size = q := ⟨_, rfl⟩
  rw [hq] at ha ⊢
  have Z2 := Lib.hid (Z0.out.new hq ha hg2)
  clear ha hg2 hq Z0
  simp only [Act.put, sA9, sB9, sC9]
  refine wpList_nil ?_
  go_upto_region 1 with fail
  refine Step.begin_ (S := fun w' => Below w1.heap.size w1 w') 11 rfl (by kernel_rfl) (Below.refl _ _).drew ?_
  intro hSS
  have Y1 := Lib.hid hSS
  clear hSS
  refine Step.t_move (i := 0) rfl rfl (by kernel_rfl) (by kernel_rfl) (by kernel_rfl) Y1.out _ rfl (.pointer (some ⟨xb, 0, none⟩)) rfl ?_
  simp only [Act.put, sA9, sB9, sC9]
  refine Step.t_move (i := 5) rfl rfl (by kernel_rfl) (by kernel_rfl) (by kernel_rfl) Y1.out _ rfl (.pointer (some ⟨xb, 0, none⟩)) rfl ?_
  simp only [Act.put, sA9, sB9, sC9]
  refine Step.t_val (i := 1) rfl rfl (by kernel_rfl) (by kernel_rfl) (by kernel_rfl) Y1.out (.pointer (some ⟨xb, 0, none⟩)) (fun w' _ => by rfl) ?_
  simp only [Act.put, sA9, sB9, sC9]
  refine Step.t_val (i := 6) rfl rfl (by kernel_rfl) (by kernel_rfl) (by kernel_rfl) Y1.out (.pointer (some ⟨xb, 0, none⟩)) (fun w' _ => by rfl) ?_
  simp only [Act.put, sA9, sB9, sC9]
  refine Tree.t_field (i := 2) rfl rfl (by kernel_rfl) (by kernel_rfl) (by kernel_rfl) Y1.out _ _ _ rfl (xb) (0) rfl Tryz.underlying96 rfl (sz := 16) (by kernel_rfl) (by decide) (4) rfl ?_
  simp only [Act.put, sA9, sB9, sC9]
  refine Tree.t_field (i := 7) rfl rfl (by kernel_rfl) (by kernel_rfl) (by kernel_rfl) Y1.out _ _ _ rfl (xb) (0) rfl Tryz.underlying96 rfl (sz := 16) (by kernel_rfl) (by decide) (20) rfl ?_
  simp only [Act.put, sA9, sB9, sC9]
  refine Step.t_val (i := 3) rfl rfl (by kernel_rfl) (by kernel_rfl) (by kernel_rfl) Y1.out (.slice (some ⟨xb, 4, none⟩) 16 16) (fun w' _ => by unfold execOp; go_simp; try rfl) ?_
  simp only [Act.put, sA9, sB9, sC9]
  refine Step.t_val (i := 8) rfl rfl (by kernel_rfl) (by kernel_rfl) (by kernel_rfl) Y1.out (.slice (some ⟨xb, 20, none⟩) 16 16) (fun w' _ => by unfold execOp; go_simp; try rfl) ?_
  simp only [Act.put, sA9, sB9, sC9]
  refine Step.t_one (i := 4) rfl rfl (by kernel_rfl) ?_
  refine Step.w_append _ _ _ rfl w1.heap.size 5 i0 (.int .u8 0) 1 1 Tryz.underlying22 hi hz0 hz1 hz2 rfl (by decide) _ 0 ([]) rfl ((⟨rfl, .inl ⟨rfl, rfl⟩⟩ : World.ownsRow _ _ _ _ _ _ _)) ⟨xb, 4, none⟩ 16 16 (bl fl 16) rfl (by rw [bl_len]) (fun j u hj => ?_) (fun u hu => ?_) (by decide) (by decide) (Nat.le_refl _) ?_
  · have hl : j < 16 := by have := (List.getElem?_eq_some_iff.1 hj).1; rwa [bl_len] at this
    rw [bl_get _ _ _ hl] at hj
    rw [Addr.add_mid, ← hj]
    exact HC.out _ (Z2.out.bel.trans (Y1.out.mono Z2.out.bel.size)) j hl
  · obtain ⟨i, hi⟩ := List.mem_iff_getElem?.1 hu
    have hl : i < 16 := by have := (List.getElem?_eq_some_iff.1 hi).1; rwa [bl_len] at this
    rw [bl_get _ _ _ hl] at hi
    cases hi
    rfl
  intro v1 w2 hown hg2 _ _
  have Y2 := Lib.hid (Y1.out.grown (w' := w2) hg2 (Nat.le_refl _) (by intro j hj; cases hj))
  simp only [Nat.zero_add, List.nil_append] at hown
  have O1 := Lib.hid hown
  clear hown hg2 Y1
  refine ⟨Y2.out, ?_⟩
  simp only [Act.put, sA9, sB9, sC9]
  refine Step.t_one (i := 9) rfl rfl (by kernel_rfl) ?_
  refine Step.w_append _ _ _ rfl w1.heap.size 5 i0 (.int .u8 0) 1 1 Tryz.underlying22 hi hz0 hz1 hz2 rfl (by decide) _ 16 (bl fl 16) rfl (O1.out) ⟨xb, 20, none⟩ 16 16 (bl wh 16) rfl (by rw [bl_len]) (fun j u hj => ?_) (fun u hu => ?_) (by decide) (by decide) (Y2.out.size) ?_
  · have hl : j < 16 := by have := (List.getElem?_eq_some_iff.1 hj).1; rwa [bl_len] at this
    rw [bl_get _ _ _ hl] at hj
    rw [Addr.add_mid, ← hj]
    exact HD.out _ (Z2.out.bel.trans (Y2.out.mono Z2.out.bel.size)) j hl
  · obtain ⟨i, hi⟩ := List.mem_iff_getElem?.1 hu
    have hl : i < 16 := by have := (List.getElem?_eq_some_iff.1 hi).1; rwa [bl_len] at this
    rw [bl_get _ _ _ hl] at hi
    cases hi
    rfl
  intro v2 w3 hown hg2 _ _
  have Y3 := Lib.hid (Y2.out.grown hg2 Y2.out.size (fun j hj => (O1.out.lt j hj).1))
  rw [bl_join] at hown
  have O2 := Lib.hid hown
  clear O1
  clear hown hg2 Y2
  refine ⟨Y3.out, ?_⟩
  simp only [Act.put, sA9, sB9, sC9]
  refine Step.t_assign (i := 10) rfl rfl (by kernel_rfl) (by kernel_rfl) (by kernel_rfl) Y3.out _ rfl (v2) rfl ?_
  simp only [Act.put, sA9, sB9, sC9]
  refine Step.t_end (by kernel_rfl) ?_
  rcases O2.out.2 with ⟨_, h'⟩ | ⟨g, cap, cur, rfl, _⟩
  · omega
  obtain ⟨s1, s2, s3, s4⟩ := sec_of O2.out
  have hk : Hid (KeyB w3 g 0 32 (sumF fl wh)) := Lib.hid (fun j hj => by rw [Nat.zero_add]; exact s1.cell hj)
  have Z3 : Hid (RB [(q, 0)] w w3) := Lib.hid (Z2.out.bel_ Y3.out)
  have B3 := Lib.hid (Z3.out.bel)
  have SC := Lib.hid (scheduled_any (sumF fl wh) 8 (by decide) (fun i _ => hF i) g 0 cap w3 (fun j hj => hk.out j (by omega)) (by omega) s4 (HR.out w3 B3.out))
  clear s1 Z2 Y3 O2 hk
  go_upto_region 2 with fail
  refine wp_region_lit ?_
  refine Step.p_move rfl _ rfl (.slice (some ⟨g, 0, none⟩) 32 cap) rfl ?_
  simp only [Act.put, sA9, sB9, sC9]
  refine Step.p_wp rfl (Step.w_callx 110 _ _ rfl Tryz.func110 (by kernel_rfl) rfl [.slice (some ⟨g, 0, none⟩) 32 cap] rfl (SC.out) ?_)
  rintro e w41 ⟨vk, rfl, hsd, hb⟩
  have Z42 := Lib.hid (Z3.out.bel_ hb)
  have K1 := Lib.hid hsd
  clear hsd
  clear hb Z3
  refine ⟨_, rfl, ?_⟩
  simp only [Act.put, sA9, sB9, sC9]
  refine Step.p_move rfl _ rfl (.int .u64 s) rfl ?_
  simp only [Act.put, sA9, sB9, sC9]
  refine Step.p_wp rfl (Step.w_callx 100 _ _ rfl Tryz.func100 (by kernel_rfl) rfl [.int .u64 0, .int .u64 (s : Nat)] rfl (LT.out _) ?_)
  rintro e w43 ⟨rfl, hb⟩
  have Z44 := Lib.hid (Z42.out.bel_ hb)
  have K2 := Lib.hid (K1.out.below hb)
  clear K1
  clear hb Z42
  refine ⟨_, rfl, ?_⟩
  simp only [Act.put, sA9, sB9, sC9]
  refine Step.p_wp rfl (Step.w_callx 106 _ _ rfl Tryz.func106 (by kernel_rfl) rfl [vk, B16 s] rfl (code_any (sumF fl wh) 8 vk s _ K2.out) ?_)
  rintro e w45 ⟨rfl, hb⟩
  have Z46 := Lib.hid (Z44.out.bel_ hb)
  clear hb Z44
  refine ⟨_, rfl, ?_⟩
  simp only [Act.put, sA9, sB9, sC9]
  refine Step.p_store 27 _ _ rfl (q) rfl rfl (Z46.out.own (q, 0) (.head _)).1 Field.info16 rfl ?_
  intro w47 ha hg2 _
  have Z48 := Lib.hid (Z46.out.store0 (y := keyE (sumF fl wh) 8 s) ha hg2)
  clear ha hg2 Z46
  simp only [Act.put]
  refine wpList_nil ?_
  go_wp2
  exact ret_arr rfl rfl (Z48.out.own (q, keyE (sumF fl wh) 8 s) (.head _)).1 Tryz.underlying27 rfl Field.info16 rfl ⟨rfl, Z48.out.bel⟩
end Go.Proofs.YtmifebcaifbmoaaGreatDoor.G
end
