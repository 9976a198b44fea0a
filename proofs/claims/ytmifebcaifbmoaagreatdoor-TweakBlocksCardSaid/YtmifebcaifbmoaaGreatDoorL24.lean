/- Parts of the proof of TweakBlocks. G1: tweak: Seal and Open of a cipher told by its runs. G2: tweak.New of any mode: by what its parts' function and its build do. Pl1: Sectors block by block, plain: blocks by their places; XTS with bytes that steal; chains. -/
import Derived.Test.YtmifebcaifbmoaaGreatDoorL00
import Derived.Test.YtmifebcaifbmoaaGreatDoorL23
/- G1 -/
section
namespace Go.Proofs.YtmifebcaifbmoaaGreatDoor.G
open Go.RowKit Go.Lib Go.Proofs.YtmifebcaifbmoaaGreatDoor.Blk Go.Proofs.YtmifebcaifbmoaaGreatDoor.Poly Go.Proofs.YtmifebcaifbmoaaGreatDoor.Field Go.Proofs.YtmifebcaifbmoaaGreatDoor.Tab Go.Proofs.YtmifebcaifbmoaaGreatDoor.Byts Go.Proofs.YtmifebcaifbmoaaGreatDoor.Tw

set_option maxRecDepth 100000 in
set_option maxHeartbeats 4000000 in
theorem seal_any {k cb : Nat} {loose : Bool} {iv : Nat → Nat → Nat} {S O : Nat → Nat → (Nat → Nat) → Nat → Nat} (w : World) (hC : CiphG k cb loose iv S O w) (hrc : 2 < w.heap.size) (s : Nat) (hs : s < 2 ^ 64) (b off n cap : Nat) (hok : okN loose n) (hn0 : 16 ≤ n) (hn : n ≤ 4096) (f : Nat → Nat) (hf : ∀ i, f i < 256) (hB : BL w (some ⟨b, off, none⟩) n f) :
    Calls Tryz.prog 14 #[.pointer (some ⟨cb, 0, none⟩), .int .u64 s, .slice (some ⟨b, off, none⟩) n cap] w fun e w' => ∃ g, e = .returned (.tuple #[.slice (some ⟨g, 0, none⟩) n n, .int .i64 0]) ∧ Sec w' g n (S s n f) ∧ w.heap.size ≤ g ∧ Below w.heap.size w w' := by
  obtain ⟨hk, hl, xb, gk, d, f1, a1, c1, f2, a2, c2, h1, ⟨cs, h2, h3⟩, h4, ⟨fn1, o1, o2, o3⟩, ⟨fn2, p1, p2, p3⟩, hr1, hr2, _⟩ := hC
  have e0 : w.cell? ⟨cb, 0, none⟩ = some (.pointer (some ⟨xb, 0, none⟩)) := by rw [cell_of_row w _ _ _ _ _ h1]; rfl
  have e1 : w.cell? ⟨cb, 1, none⟩ = some (.pointer (some ⟨gk, k * 7, none⟩)) := by rw [cell_of_row w _ _ _ _ _ h1]; rfl
  have e2 : w.cell? ⟨cb, 2, none⟩ = some (.func (.func f1) (List.toArray a1) (List.toArray c1)) := by rw [cell_of_row w _ _ _ _ _ h1]; rfl
  have MY := Lib.hid (may_any cb xb gk (k * 7) n loose w e0 (by rw [cell_of_row w _ _ _ _ _ h2]; exact h3) e1 (h4.c k hk 6 _ (hl d)) hn0 hn hok)
  have CL := Lib.hid (clone_any b off n cap f w (by omega) (by omega) hB)
  have C2 := Lib.hid e2
  have RN := Lib.hid (fun g c w2 (hb : Below w.heap.size w w2) (hS : Sec w2 g n f) (h1 : n ≤ c) (h2 : c ≤ 9223372036854775807) (hg : w.heap.size ≤ g) => hr1 s n g c f w2 hs hn0 hn hok h1 h2 hf (Kp.of_below hb) hS (by omega))
  clear e0 e1 e2 h1 h2 h3 h4 hr1 hr2 hB hl hok
  go_enter Tryz.func14, Tryz.ntmps14
  go_upto_region 4 with (go_at_call 40; refine MY.out.mono ?_; rintro e w' ⟨rfl, rfl⟩)
  go_upto_region 5 with (go_at_call 41; refine CL.out.mono ?_; rintro e w2 ⟨g, c, rfl, hsec, hg, hgc, hcm, hb⟩)
  have B2 := Lib.hid hb
  have RN2 := Lib.hid (RN.out g c w2 hb hsec hgc hcm hg)
  have hcc := cell_bel B2.out C2.out
  clear hsec hb MY CL RN
  refine wp_region_lit ?_
  refine Step.p_move rfl _ rfl (.pointer (some ⟨cb, 0, none⟩)) rfl ?_
  simp only [Act.put, sA9, sB9, sC9]
  refine Step.p_val rfl (.pointer (some ⟨cb, 0, none⟩)) (by unfold execOp; go_simp) ?_
  simp only [Act.put, sA9, sB9, sC9]
  refine Tree.p_field rfl _ _ _ rfl (cb) (0) rfl Tryz.underlying80 rfl (sz := 1) (by kernel_rfl) (by decide) (2) rfl ?_
  simp only [Act.put, sA9, sB9, sC9]
  refine Tree.p_load1 rfl _ _ rfl (cb) (2) rfl (.func (.func f1) (List.toArray a1) (List.toArray c1)) (hcc) Tryz.underlying78 rfl ?_
  simp only [Act.put, sA9, sB9, sC9]
  refine Step.p_move rfl _ rfl (.int .u64 s) rfl ?_
  simp only [Act.put, sA9, sB9, sC9]
  refine Step.p_move rfl _ rfl (.slice (some ⟨g, 0, none⟩) n c) rfl ?_
  simp only [Act.put, sA9, sB9, sC9]
  refine Step.p_wp rfl (w_callv2 _ _ _ rfl f1 a1 c1 rfl o1 o2 o3 [.int .u64 s, .slice (some ⟨g, 0, none⟩) n c] rfl RN2.out ?_)
  rintro e w3 ⟨rfl, hsec, hg3⟩
  refine ⟨_, rfl, ?_⟩
  simp only [Act.put, sA9, sB9, sC9]
  refine wpList_nil ?_
  have S3 := Lib.hid hsec
  have B3 := Lib.hid (B2.out.grown hg3 B2.out.size (fun j hj => by cases hj; exact hg))
  clear hsec hg3 hcc RN2
  go_upto_region 6 with fail
  refine wp_region_lit ?_
  refine Step.p_move rfl _ rfl (.slice (some ⟨g, 0, none⟩) n c) rfl ?_
  simp only [Act.put, sA9, sB9, sC9]
  refine Step.p_move rfl _ rfl (.slice (some ⟨g, 0, none⟩) n c) rfl ?_
  simp only [Act.put, sA9, sB9, sC9]
  refine Step.p_len rfl _ _ 5 rfl (_) (n) (c) rfl Tryz.underlying22 ?_
  simp only [Act.put, sA9, sB9, sC9]
  refine Step.p_move rfl _ rfl (.slice (some ⟨g, 0, none⟩) n c) rfl ?_
  simp only [Act.put, sA9, sB9, sC9]
  refine Step.p_len rfl _ _ 5 rfl (_) (n) (c) rfl Tryz.underlying22 ?_
  simp only [Act.put, sA9, sB9, sC9]
  refine Step.p_val rfl (.slice (some ⟨g, 0, none⟩) n n) (by unfold execOp; go_simp; try (rw [if_pos ⟨by omega, by omega⟩])) ?_
  simp only [Act.put, sA9, sB9, sC9]
  refine Step.p_assign rfl _ rfl (.slice (some ⟨g, 0, none⟩) n n) rfl ?_
  simp only [Act.put, sA9, sB9, sC9]
  refine Step.p_assign rfl _ rfl (.int .i64 0) rfl ?_
  simp only [Act.put, sA9, sB9, sC9]
  refine wpList_nil ?_
  go_wp2
  go_ret2
  exact ⟨g, rfl, S3.out, hg, B3.out⟩

end Go.Proofs.YtmifebcaifbmoaaGreatDoor.G
end

/- G2 -/
section
namespace Go.Proofs.YtmifebcaifbmoaaGreatDoor.G
open Go.RowKit Go.Lib Go.Proofs.YtmifebcaifbmoaaGreatDoor.Blk Go.Proofs.YtmifebcaifbmoaaGreatDoor.Aes Go.Proofs.YtmifebcaifbmoaaGreatDoor.Poly Go.Proofs.YtmifebcaifbmoaaGreatDoor.Field Go.Proofs.YtmifebcaifbmoaaGreatDoor.Tab Go.Proofs.YtmifebcaifbmoaaGreatDoor.Byts Go.Proofs.YtmifebcaifbmoaaGreatDoor.Tw

/-- what stands in a core behind its parts -/
structure KeyR (E D A : Nat → Nat) (two : Bool) (fl wh : Nat → Nat) (cs : Array Value) (w : World) : Prop where
  n : cs.size = 37
  nm : ∃ s, cs[0]? = some (.string s)
  wip : cs[36]? = some (.bool false)
  main : ∃ v, cs[2]? = some v ∧ DoK 106 v E w ∧ DoK 109 v D w
  aside : two = true → ∃ v, cs[3]? = some v ∧ DoK 106 v A w
  fl : ∀ i, i < 16 → cs[4 + i]? = some (.int .u8 (fl i : Nat))
  wh : ∀ i, i < 16 → cs[20 + i]? = some (.int .u8 (wh i : Nat))
theorem KeyR.kq {E D A : Nat → Nat} {two : Bool} {fl wh : Nat → Nat} {cs : Array Value} {w w' : World} (h : KeyR E D A two fl wh cs w) (k : Kq w w') : KeyR E D A two fl wh cs w' := by
  obtain ⟨v, m1, m2, m3⟩ := h.main
  refine ⟨h.n, h.nm, h.wip, ⟨v, m1, m2.kq k, m3.kq k⟩, fun t => ?_, h.fl, h.wh⟩
  obtain ⟨z, z1, z2⟩ := h.aside t
  exact ⟨z, z1, z2.kq k⟩
/-- what a mode's parts' function makes of a new core; g: the key's bytes -/
def PartsAt (pf : FuncId) (caps : Nat → List Value) (spec : ByteArray) (g off n cap : Nat) (E D : Nat → Nat) (A : (Nat → Nat) → Nat → Nat) (two : Bool) (fl wh : (Nat → Nat) → Nat → Nat) (w : World) : Prop := ∀ xb d w', w.heap.size ≤ xb → Below w.heap.size w w' → w'.heap[xb]? = some (.cells (coreZ spec (n : Nat)) 96 (0, 0)) → w'.heap[d]? = some (.cells #[fv 64] 91 (0, 0)) →
  Calls Tryz.prog pf (([.pointer (some ⟨xb, 0, none⟩), .slice (some ⟨g, off, none⟩) n cap] : List Value) ++ caps d).toArray w' fun e w2 => e = .returned (.tuple #[]) ∧ (∃ F : Nat → Nat, (∀ i, F i < 256) ∧ ∃ cs, w2.heap[xb]? = some (.cells cs 96 (0, 0)) ∧ KeyR E D (A F) two (fl F) (wh F) cs w2) ∧ w'.grownBy w2 (some xb)
/-- what a mode's build lays into a cipher -/
def BuildAt (bf : FuncId) (k : Nat) (loose : Bool) (E D A : Nat → Nat) (two : Bool) (fl wh : Nat → Nat) (iv : Nat → Nat → Nat) (S O : Nat → Nat → (Nat → Nat) → Nat → Nat) : Prop := ∀ cb xb gk d cs w', w'.heap[cb]? = some (.cells #[.pointer (some ⟨xb, 0, none⟩), .pointer (some ⟨gk, k * 7, none⟩), .nilFunc, .nilFunc] 80 (0, 0)) →
  w'.heap[xb]? = some (.cells cs 96 (0, 0)) → KeyR E D A two fl wh cs w' → KindsAt gk d w' → RconAt w' → (∀ sf, (kindL 0 k)[3]? = some (fv sf) → ∀ w2, w2.heap[xb]? = some (.cells cs 96 (0, 0)) → KeyR E D A two fl wh cs w2 → RconAt w2 → StAt sf xb iv w2) →
  Calls Tryz.prog bf #[.pointer (some ⟨cb, 0, none⟩)] w' fun e w2 => e = .returned (.tuple #[]) ∧ (∃ f1 a1 c1 f2 a2 c2, w2.heap[cb]? = some (.cells #[.pointer (some ⟨xb, 0, none⟩), .pointer (some ⟨gk, k * 7, none⟩), .func (.func f1) (List.toArray a1) (List.toArray c1), .func (.func f2) (List.toArray a2) (List.toArray c2)] 80 (0, 0)) ∧ FnOk f1 ∧ FnOk f2 ∧ RunAt f1 a1 c1 (okN loose) S w2 ∧ RunAt f2 a2 c2 (okN loose) O w2) ∧ w'.grownBy w2 (some cb)
/-- what a mode begins a sector with -/
def StartsAt (k : Nat) (E D A : Nat → Nat) (two : Bool) (fl wh : Nat → Nat) (iv : Nat → Nat → Nat) : Prop := ∀ sf, (kindL 0 k)[3]? = some (fv sf) → ∀ xb cs w2, w2.heap[xb]? = some (.cells cs 96 (0, 0)) → KeyR E D A two fl wh cs w2 → RconAt w2 → StAt sf xb iv w2
set_option maxRecDepth 100000 in
set_option maxHeartbeats 4000000 in
theorem new_any (i0 k : Nat) (hi : i0 < 3) (hk : k < 17) (n : Nat) (hn : szT i0 k = (n : Nat)) (_hn2 : n ≤ 1000) (loose : Bool) (hl : ∀ d, (kindL d k)[6]? = some (.bool loose)) (pf bf : FuncId) (caps : Nat → List Value) (hpf : ∀ d, (kindL d k)[5]? = some (.func (.func pf) #[] (caps d).toArray)) (hbf : ∀ d, (kindL d k)[4]? = some (fv bf)) (ok1 : FnOk pf) (ok2 : FnOk bf)
    (E D : Nat → Nat) (A : (Nat → Nat) → Nat → Nat) (two : Bool) (fl wh : (Nat → Nat) → Nat → Nat) (iv : (Nat → Nat) → Nat → Nat → Nat) (S O : (Nat → Nat) → Nat → Nat → (Nat → Nat) → Nat → Nat) (g off cap : Nat) (w : World) (_hcap : n ≤ cap) (hR : RconAt w) (hS : Sizes w)
    (PT : PartsAt pf caps (pre i0 ++ nm k) g off n cap E D A two fl wh w) (BT : ∀ F : Nat → Nat, (∀ i, F i < 256) → BuildAt bf k loose E D (A F) two (fl F) (wh F) (iv F) (S F) (O F)) (ST : ∀ F : Nat → Nat, (∀ i, F i < 256) → StartsAt k E D (A F) two (fl F) (wh F) (iv F)) :
    Calls Tryz.prog 23 #[.string (pre i0 ++ nm k), .slice (some ⟨g, off, none⟩) n cap] w fun e w' => ∃ cb F, e = .returned (.tuple #[.pointer (some ⟨cb, 0, none⟩), .int .i64 0]) ∧ (∀ i, F i < 256) ∧ CiphG k cb loose (iv F) (S F) (O F) w' ∧ Below w.heap.size w w' := by
  have FI := Lib.hid (find_any i0 k hi hk w hS)
  rw [hn] at FI
  obtain ⟨fn1, o1, o2, o3⟩ := ok1
  obtain ⟨fn2, p1, p2, p3⟩ := ok2
  have PT2 := Lib.hid PT
  have BT2 := Lib.hid BT
  have ST2 := Lib.hid ST
  have HR := Lib.hid hR
  have HL := Lib.hid hl
  have HP := Lib.hid hpf
  have HB := Lib.hid hbf
  clear hR hS hn PT BT hl hpf hbf ST
  generalize pre i0 ++ nm k = spec at *
  go_enter Tryz.func23, Tryz.ntmps23
  go_upto_region 6 with (go_at_call 43; refine FI.out.mono ?_; rintro e w2 ⟨gk, d, rfl, hg2, hka, hb⟩)
  have K2 := Lib.hid hka
  have B2 := Lib.hid hb
  obtain ⟨kl1, kl2⟩ := KindsAt_lt hka
  clear hka hb
  refine wp_region_lit ?_
  refine Step.p_move rfl _ rfl (.string spec) rfl ?_
  simp only [Act.put, sA9, sB9, sC9]
  refine Step.p_move rfl _ rfl (.slice (some ⟨g, off, none⟩) n cap) rfl ?_
  simp only [Act.put, sA9, sB9, sC9]
  refine Step.p_len rfl _ _ 5 rfl (_) (n) (cap) rfl Tryz.underlying22 ?_
  simp only [Act.put, sA9, sB9, sC9]
  refine Step.p_val rfl (.agg (coreZ spec (n : Nat))) (by unfold execOp; go_simp; rfl) ?_
  simp only [Act.put, sA9, sB9, sC9]
  refine Seg.p_boxA rfl 96 _ rfl (coreZ spec (n : Nat)) rfl ?_
  simp only [Act.put, sA9, sB9, sC9]
  refine Step.p_move rfl _ rfl (.pointer (some ⟨gk, k * 7, none⟩)) rfl ?_
  simp only [Act.put, sA9, sB9, sC9]
  refine Step.p_val rfl (.agg #[.pointer (some ⟨w2.heap.size, 0, none⟩), .pointer (some ⟨gk, k * 7, none⟩), .nilFunc, .nilFunc]) (by unfold execOp; go_simp; try rfl) ?_
  simp only [Act.put, sA9, sB9, sC9]
  refine Seg.p_boxA rfl 80 _ rfl _ rfl ?_
  simp only [Act.put, sA9, sB9, sC9]
  rw [World.size_alloc]
  refine Step.p_assign rfl _ rfl (.pointer (some ⟨w2.heap.size + 1, 0, none⟩)) rfl ?_
  simp only [Act.put, sA9, sB9, sC9]
  refine wpList_nil ?_
  have X3 : Hid (((w2.alloc (.cells (coreZ spec (n : Nat)) 96)).alloc (.cells #[.pointer (some ⟨w2.heap.size, 0, none⟩), .pointer (some ⟨gk, k * 7, none⟩), .nilFunc, .nilFunc] 80)).heap[w2.heap.size]? = some (.cells (coreZ spec (n : Nat)) 96 (0, 0))) := Lib.hid ((heap_alloc_old _ _ (by simp)).trans (heap_alloc_new w2 _))
  have Y3 : Hid (((w2.alloc (.cells (coreZ spec (n : Nat)) 96)).alloc (.cells #[.pointer (some ⟨w2.heap.size, 0, none⟩), .pointer (some ⟨gk, k * 7, none⟩), .nilFunc, .nilFunc] 80)).heap[w2.heap.size + 1]? = some (.cells #[.pointer (some ⟨w2.heap.size, 0, none⟩), .pointer (some ⟨gk, k * 7, none⟩), .nilFunc, .nilFunc] 80 (0, 0))) := Lib.hid (by
    have := heap_alloc_new (w2.alloc (.cells (coreZ spec (n : Nat)) 96)) (.cells #[.pointer (some ⟨w2.heap.size, 0, none⟩), .pointer (some ⟨gk, k * 7, none⟩), .nilFunc, .nilFunc] 80)
    rwa [World.size_alloc] at this)
  have B3 : Hid (Below w2.heap.size w2 ((w2.alloc (.cells (coreZ spec (n : Nat)) 96)).alloc (.cells #[.pointer (some ⟨w2.heap.size, 0, none⟩), .pointer (some ⟨gk, k * 7, none⟩), .nilFunc, .nilFunc] 80))) := Lib.hid (((Below.refl _ _).alloc (Nat.le_refl _) _).alloc (by simp) _)
  generalize ((w2.alloc (.cells (coreZ spec (n : Nat)) 96)).alloc (.cells #[.pointer (some ⟨w2.heap.size, 0, none⟩), .pointer (some ⟨gk, k * 7, none⟩), .nilFunc, .nilFunc] 80)) = w3 at *
  have hs2 := B2.out.size
  have K3 := Lib.hid (K2.out.below B3.out)
  have BB3 := Lib.hid (B2.out.trans (B3.out.mono B2.out.size))
  go_upto_region 7 with fail
  refine wp_region_still_tail 9 (by kernel_rfl) (by kernel_rfl) ?_
  refine Still.s_move rfl _ rfl (.pointer (some ⟨gk, k * 7, none⟩)) rfl ?_
  simp only [Act.put, sA9, sB9, sC9]
  refine Still.s_val rfl (.pointer (some ⟨gk, k * 7, none⟩)) (by unfold execOp; go_simp) ?_
  simp only [Act.put, sA9, sB9, sC9]
  refine Still.s_val rfl (.pointer (some ⟨gk, k * 7 + 5, none⟩)) (by unfold execOp; simp only [Sem.run_bind, Sem.run_pure]; rfl) ?_
  simp only [Act.put, sA9, sB9, sC9]
  refine Still.s_load1 rfl _ _ rfl (gk) (k * 7 + 5) rfl (.func (.func pf) #[] (caps d).toArray) (K3.out.c k hk 5 _ (HP.out d)) Tryz.underlying91 rfl ?_
  simp only [Act.put, sA9, sB9, sC9]
  refine Still.s_move rfl _ rfl (.pointer (some ⟨w2.heap.size + 1, 0, none⟩)) rfl ?_
  simp only [Act.put, sA9, sB9, sC9]
  refine Still.s_val rfl (.pointer (some ⟨w2.heap.size + 1, 0, none⟩)) (by unfold execOp; go_simp) ?_
  simp only [Act.put, sA9, sB9, sC9]
  refine Still.s_val rfl (.pointer (some ⟨w2.heap.size + 1, 0, none⟩)) (by unfold execOp; simp only [Sem.run_bind, Sem.run_pure]; rfl) ?_
  simp only [Act.put, sA9, sB9, sC9]
  refine Still.s_load1 rfl _ _ rfl (w2.heap.size + 1) (0) rfl (.pointer (some ⟨w2.heap.size, 0, none⟩)) (by show w3.cell? _ = _; rw [cell_of_row w3 _ _ _ _ _ Y3.out]; rfl) Tryz.underlying76 rfl ?_
  simp only [Act.put, sA9, sB9, sC9]
  refine Still.s_move rfl _ rfl (.slice (some ⟨g, off, none⟩) n cap) rfl ?_
  simp only [Act.put, sA9, sB9, sC9]
  refine wpStill_nil ?_
  simp only [List.drop]
  refine Step.p_wp rfl (Step.w_callv _ _ _ rfl pf (caps d) rfl o1 o2 o3 [.pointer (some ⟨w2.heap.size, 0, none⟩), .slice (some ⟨g, off, none⟩) n cap] rfl (PT2.out w2.heap.size d w3.drew hs2 BB3.out.drew X3.out K3.out.d) ?_)
  rintro e w4 ⟨rfl, ⟨F, hFb, cs4, h4c, h4a⟩, h4g⟩
  refine ⟨_, rfl, ?_⟩
  simp only [Act.put, sA9, sB9, sC9]
  refine wpList_nil ?_
  have C4 := Lib.hid h4c
  have A4 := Lib.hid h4a
  have G4 : Hid (w3.grownBy w4 (some w2.heap.size)) := Lib.hid ⟨h4g.os, h4g.tape, h4g.output, h4g.size, h4g.block⟩
  clear h4c h4a h4g
  have hl3 : w2.heap.size + 1 < w3.heap.size := (Array.getElem?_eq_some_iff.1 Y3.out).1
  have Y4 := Lib.hid ((G4.out.block (w2.heap.size + 1) hl3 (by simp)).trans Y3.out)
  have K4 := Lib.hid (KindsAt_gb K3.out G4.out (by omega) (by omega))
  have B4 := Lib.hid (BB3.out.grown G4.out BB3.out.size (fun j hj => by cases hj; exact hs2))
  clear K3 BB3 B3 X3 Y3 PT2 FI
  go_upto_region 8 with fail
  refine wp_region_lit ?_
  refine Step.p_move rfl _ rfl (.pointer (some ⟨gk, k * 7, none⟩)) rfl ?_
  simp only [Act.put, sA9, sB9, sC9]
  refine Step.p_val rfl (.pointer (some ⟨gk, k * 7, none⟩)) (by unfold execOp; go_simp) ?_
  simp only [Act.put, sA9, sB9, sC9]
  refine Tree.p_field rfl _ _ _ rfl (gk) (k * 7) rfl Tryz.underlying93 rfl (sz := 1) (by kernel_rfl) (by decide) (k * 7 + 4) rfl ?_
  simp only [Act.put, sA9, sB9, sC9]
  refine Tree.p_load1 rfl _ _ rfl (gk) (k * 7 + 4) rfl (fv bf) (K4.out.c k hk 4 _ (HB.out d)) Tryz.underlying90 rfl ?_
  simp only [Act.put, sA9, sB9, sC9]
  refine Step.p_move rfl _ rfl (.pointer (some ⟨w2.heap.size + 1, 0, none⟩)) rfl ?_
  simp only [Act.put, sA9, sB9, sC9]
  refine Step.p_wp rfl (Step.w_callv _ _ _ rfl bf [] rfl p1 p2 p3 [.pointer (some ⟨w2.heap.size + 1, 0, none⟩)] rfl (BT2.out F hFb (w2.heap.size + 1) w2.heap.size gk d cs4 w4 Y4.out C4.out A4.out K4.out (HR.out.below B4.out) (fun sf e w2 h1 h2 h3 => ST2.out F hFb sf e _ _ w2 h1 h2 h3)) ?_)
  rintro e w5 ⟨rfl, ⟨f1, a1, c1, f2, a2, c2, h5c, h5a, h5b, h5s, h5u⟩, h5g⟩
  refine ⟨_, rfl, ?_⟩
  simp only [Act.put, sA9, sB9, sC9]
  refine wpList_nil ?_
  have hl4 : w2.heap.size < w4.heap.size := (Array.getElem?_eq_some_iff.1 C4.out).1
  have C5 := (h5g.block w2.heap.size hl4 (by simp)).trans C4.out
  have A5 := A4.out.kq (Kq.of_gb Y4.out (by decide) (by decide) (fun z e => by cases e) h5g)
  have K5 := KindsAt_gb K4.out h5g (by omega) (by omega)
  have B5 := B4.out.grown h5g B4.out.size (fun j hj => by cases hj; omega)
  have HF : Hid (CiphG k (w2.heap.size + 1) loose (iv F) (S F) (O F) w5 ∧ Below w.heap.size w w5) := Lib.hid ⟨⟨hk, HL.out, w2.heap.size, gk, d, f1, a1, c1, f2, a2, c2, h5c, ⟨cs4, C5, A5.wip⟩, K5, h5a, h5b, h5s, h5u, fun sf e => ST2.out F hFb sf e _ _ w5 C5 A5 (HR.out.below B5)⟩, B5⟩
  clear h5c h5s h5u h5g C5 A5 K5 B5 h5a h5b
  go_wp2
  go_ret2
  exact ⟨_, F, rfl, hFb, HF.out⟩
end Go.Proofs.YtmifebcaifbmoaaGreatDoor.G
end

/- Pl1 -/
section
namespace Go.Proofs.YtmifebcaifbmoaaGreatDoor.G
open Go.Proofs.YtmifebcaifbmoaaGreatDoor.Poly Go.Proofs.YtmifebcaifbmoaaGreatDoor.Tw

/-- the tweak of block j -/
def dblK (t : Nat) : Nat → Nat
  | 0 => t
  | j + 1 => dblN (dblK t j)
theorem dblK_lt {t : Nat} (ht : t < 2 ^ 128) : ∀ j, dblK t j < 2 ^ 128
  | 0 => ht
  | _ + 1 => dblN_lt _
/-- a block between two additions -/
def msk (E : Nat → Nat) (t b : Nat) : Nat := E (b ^^^ t) ^^^ t
/-- the bytes behind k blocks, each by its place -/
def blkF (B : Nat → Nat → Nat) (f : Nat → Nat) (k i : Nat) : Nat := if i / 16 < k then byt (B (i / 16) (blkN f (i / 16))) (i % 16) else f i
theorem blkF_lt {B : Nat → Nat → Nat} {f : Nat → Nat} (hf : ∀ i, f i < 256) (k i : Nat) : blkF B f k i < 256 := by
  unfold blkF
  split
  · exact byt_lt _ _
  · exact hf i
theorem blkF_zero (B : Nat → Nat → Nat) (f : Nat → Nat) (i : Nat) : blkF B f 0 i = f i := by
  unfold blkF
  rw [if_neg (Nat.not_lt_zero _)]
theorem blkF_blk (B : Nat → Nat → Nat) (f : Nat → Nat) (k : Nat) : blkN (blkF B f k) k = blkN f k := by
  refine lowN_congr fun i hi => ?_
  unfold blkF
  rw [if_neg (by omega)]
theorem blkF_put (B : Nat → Nat → Nat) (f : Nat → Nat) (k i : Nat) : putF (blkF B f k) k (B k (blkN f k)) i = blkF B f (k + 1) i := by
  unfold putF blkF
  by_cases h : 16 * k ≤ i ∧ i < 16 * k + 16
  · rw [if_pos h, if_pos (by omega), show i / 16 = k by omega, show i % 16 = i - 16 * k by omega]
  · rw [if_neg h]
    by_cases h2 : i / 16 < k
    · rw [if_pos h2, if_pos (by omega)]
    · rw [if_neg h2, if_neg (by omega)]
theorem blkF_congr {B B' : Nat → Nat → Nat} {f : Nat → Nat} {k : Nat} (h : ∀ j, j < k → B j (blkN f j) = B' j (blkN f j)) (i : Nat) : blkF B f k i = blkF B' f k i := by
  unfold blkF
  by_cases h2 : i / 16 < k
  · rw [if_pos h2, if_pos h2, h _ h2]
  · rw [if_neg h2, if_neg h2]
/-- XTS' blocks -/
def xtsB (E : Nat → Nat) (t j b : Nat) : Nat := msk E (dblK t j) b
/-- the tweaks of the block that is stolen from, and of the last one -/
def xts1 (back : Bool) (t m : Nat) : Nat := if back then dblK t m else dblK t (m - 1)
def xts2 (back : Bool) (t m : Nat) : Nat := if back then dblK t (m - 1) else dblK t m
/-- the block that is stolen from -/
def xtsQ (E : Nat → Nat) (back : Bool) (t m : Nat) (f : Nat → Nat) : Nat := msk E (xts1 back t m) (blkN f (m - 1))
/-- the last block -/
def xtsL (E : Nat → Nat) (back : Bool) (t m r : Nat) (f : Nat → Nat) : Nat := lowN (fun i => if i < r then f (16 * m + i) else byt (xtsQ E back t m f) i) 16
/-- what XTS makes of a sector -/
def xtsF (E : Nat → Nat) (back : Bool) (t n : Nat) (f : Nat → Nat) (i : Nat) : Nat :=
  if n % 16 = 0 then blkF (xtsB E t) f (n / 16) i
  else if i < 16 * (n / 16 - 1) then blkF (xtsB E t) f (n / 16 - 1) i
  else if i < 16 * (n / 16) then byt (msk E (xts2 back t (n / 16)) (xtsL E back t (n / 16) (n % 16) f)) (i - 16 * (n / 16 - 1))
  else byt (xtsQ E back t (n / 16) f) (i - 16 * (n / 16))
/-- what is added behind a block -/
def cbcP (iv : Nat) (f : Nat → Nat) (j : Nat) : Nat := if j = 0 then iv else blkN f (j - 1)
def cbcO (D : Nat → Nat) (iv n : Nat) (f : Nat → Nat) : Nat → Nat := blkF (fun j x => D x ^^^ cbcP iv f j) f (n / 16)
end Go.Proofs.YtmifebcaifbmoaaGreatDoor.G
end
