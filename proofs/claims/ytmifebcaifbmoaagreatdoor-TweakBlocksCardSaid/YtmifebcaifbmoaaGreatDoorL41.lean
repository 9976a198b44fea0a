/- Parts of the proof of TweakBlocks. RefK: cofferref03.New: the document's ciphers of ECB, CBC, XTS, HCTR2, made. -/
import Derived.Test.YtmifebcaifbmoaaGreatDoorL00
import Derived.Test.YtmifebcaifbmoaaGreatDoorL22
import Derived.Test.YtmifebcaifbmoaaGreatDoorL40
/- RefK -/
section
namespace Go.Proofs.YtmifebcaifbmoaaGreatDoor.Ref3
open Go.RowKit Go.Lib Go.Proofs.YtmifebcaifbmoaaGreatDoor.Blk Go.Proofs.YtmifebcaifbmoaaGreatDoor.Tab Go.Proofs.YtmifebcaifbmoaaGreatDoor.Byts Go.Proofs.YtmifebcaifbmoaaGreatDoor.Push Go.Proofs.YtmifebcaifbmoaaGreatDoor.Dig

/-- what the document's digest asks -/
structure RgW (w : World) : Prop where
  cu : WordsAt 4 80 w
  sq : WordsAt 3 16 w
theorem RgW.below {w w' : World} (h : RgW w) (b : Below w.heap.size w w') : RgW w' := ⟨h.cu.below b, h.sq.below b⟩
theorem sumBL {B : Nat} {v : Value} {w : World} (h : OwnU B 32 v w) : ∃ g c F, v = .slice (some ⟨g, 0, none⟩) 32 c ∧ (∀ i, F i < 256) ∧ 32 ≤ c ∧ c ≤ 9223372036854775807 ∧ BL w (some ⟨g, 0, none⟩) 32 F := by
  obtain ⟨F, hF, ho⟩ := h
  obtain ⟨g, c, e, _, h2, h3, h4⟩ := ownB_of ho (by decide)
  exact ⟨g, c, F, e, hF, h2, h3, fun i hi => ⟨g, 0, rfl, by rw [Nat.zero_add]; exact h4 i hi⟩⟩
set_option maxRecDepth 100000 in
set_option maxHeartbeats 4000000 in
theorem newK0_any (i0 : Nat) (hi : i0 < 3) (g off cap : Nat) (F : Nat → Nat) (hF : ∀ j, F j < 256) (w : World) (hB : BL w (some ⟨g, off, none⟩) (4 * (4 + 2 * i0)) F) (hcap : (4 * (4 + 2 * i0)) ≤ cap) (hcm : cap ≤ 9223372036854775807) (hM : Modes w) (_hG : RgW w) :
    Calls Tryz.prog 24 #[.string (name (1 + 17 * i0 + 0)), .slice (some ⟨g, off, none⟩) (4 * (4 + 2 * i0)) cap] w fun e w' => ∃ rb, e = .returned (.tuple #[.pointer (some ⟨rb, 0, none⟩), .int .i64 0]) ∧ Below w.heap.size w w' := by
  have FI := Lib.hid (find_any (1 + 17 * i0 + 0) (by omega) w hM)
  have RA : rowL (1 + 17 * i0 + 0) = [.string (pre i0 ++ nm 0), .string ⟨#[101, 99, 98]⟩, .string ⟨#[]⟩, .int .i64 (16 + 8 * (i0 : Int)), .int .i64 (((4 * (4 + 2 * i0)) : Nat) : Int)] := by
    rw [rowL_at i0 0 (by decide)]
    have e : szT i0 0 = (((4 * (4 + 2 * i0)) : Nat) : Int) := by
      unfold szT
      rw [if_neg (by decide)]
      simp [moT]
      try omega
    rw [e]
    rfl
  rw [RA] at FI
  have SC := Lib.hid (fun w' h => schedule_any g off (4 + 2 * i0) cap (by omega) F hF (by omega) hcm w' h)
  have HB := Lib.hid hB
  clear hB RA hM
  have hnk : 4 ≤ 4 + 2 * i0 ∧ 4 + 2 * i0 ≤ 8 := by omega
  generalize 4 + 2 * i0 = nk at *
  generalize hn : 4 * nk = n at *
  have HN := Lib.hid hn
  clear hn
  generalize pre i0 ++ nm 0 = spec at *
  generalize name (1 + 17 * i0 + 0) = spec2 at *
  have hnl : 16 ≤ n ∧ n ≤ 64 := by have := HN.out; omega
  go_enter Tryz.func24, Tryz.ntmps24
  go_upto_region 9 with (go_at_call 18; refine FI.out.mono ?_; rintro e w1 ⟨rfl, hb⟩)
  have L0 : Hid (LW w1.heap.size #[.string spec, .string ⟨#[101, 99, 98]⟩, .string ⟨#[]⟩, .int .i64 (16 + 8 * (i0 : Int)), .int .i64 (n : Nat)] w ((w1.alloc (.cells #[.string spec, .string ⟨#[101, 99, 98]⟩, .string ⟨#[]⟩, .int .i64 (16 + 8 * (i0 : Int)), .int .i64 (n : Nat)] 45)).alloc (.cells #[.string spec, .string ⟨#[101, 99, 98]⟩, .string ⟨#[]⟩, .int .i64 (16 + 8 * (i0 : Int)), .int .i64 (n : Nat), .int .i64 (n : Nat), .pointer none, .pointer none, .pointer none, .int .u8 0, .int .u8 0, .int .u8 0, .int .u8 0, .int .u8 0, .int .u8 0, .int .u8 0, .int .u8 0, .int .u8 0, .int .u8 0, .int .u8 0, .int .u8 0, .int .u8 0, .int .u8 0, .int .u8 0, .int .u8 0, .int .u8 0, .int .u8 0, .int .u8 0, .int .u8 0, .int .u8 0, .int .u8 0, .int .u8 0, .int .u8 0, .int .u8 0, .int .u8 0, .int .u8 0, .int .u8 0, .int .u8 0, .int .u8 0, .int .u8 0, .int .u8 0, .bool false] 99))) := Lib.hid ⟨(heap_alloc_old _ _ (by rw [World.size_alloc]; exact Nat.lt_succ_self _)).trans (heap_alloc_new w1 _), ⟨#[.string spec, .string ⟨#[101, 99, 98]⟩, .string ⟨#[]⟩, .int .i64 (16 + 8 * (i0 : Int)), .int .i64 (n : Nat), .int .i64 (n : Nat), .pointer none, .pointer none, .pointer none, .int .u8 0, .int .u8 0, .int .u8 0, .int .u8 0, .int .u8 0, .int .u8 0, .int .u8 0, .int .u8 0, .int .u8 0, .int .u8 0, .int .u8 0, .int .u8 0, .int .u8 0, .int .u8 0, .int .u8 0, .int .u8 0, .int .u8 0, .int .u8 0, .int .u8 0, .int .u8 0, .int .u8 0, .int .u8 0, .int .u8 0, .int .u8 0, .int .u8 0, .int .u8 0, .int .u8 0, .int .u8 0, .int .u8 0, .int .u8 0, .int .u8 0, .int .u8 0, .bool false], (by have h := heap_alloc_new (w1.alloc (.cells #[.string spec, .string ⟨#[101, 99, 98]⟩, .string ⟨#[]⟩, .int .i64 (16 + 8 * (i0 : Int)), .int .i64 (n : Nat)] 45)) (.cells #[.string spec, .string ⟨#[101, 99, 98]⟩, .string ⟨#[]⟩, .int .i64 (16 + 8 * (i0 : Int)), .int .i64 (n : Nat), .int .i64 (n : Nat), .pointer none, .pointer none, .pointer none, .int .u8 0, .int .u8 0, .int .u8 0, .int .u8 0, .int .u8 0, .int .u8 0, .int .u8 0, .int .u8 0, .int .u8 0, .int .u8 0, .int .u8 0, .int .u8 0, .int .u8 0, .int .u8 0, .int .u8 0, .int .u8 0, .int .u8 0, .int .u8 0, .int .u8 0, .int .u8 0, .int .u8 0, .int .u8 0, .int .u8 0, .int .u8 0, .int .u8 0, .int .u8 0, .int .u8 0, .int .u8 0, .int .u8 0, .int .u8 0, .int .u8 0, .int .u8 0, .bool false] 99); rw [World.size_alloc] at h; exact h), rfl⟩, (hb.alloc hb.size _).alloc (by rw [World.size_alloc]; exact Nat.le_succ_of_le hb.size) _, hb.size⟩
  clear hb
  generalize ((w1.alloc (.cells #[.string spec, .string ⟨#[101, 99, 98]⟩, .string ⟨#[]⟩, .int .i64 (16 + 8 * (i0 : Int)), .int .i64 (n : Nat)] 45)).alloc (.cells #[.string spec, .string ⟨#[101, 99, 98]⟩, .string ⟨#[]⟩, .int .i64 (16 + 8 * (i0 : Int)), .int .i64 (n : Nat), .int .i64 (n : Nat), .pointer none, .pointer none, .pointer none, .int .u8 0, .int .u8 0, .int .u8 0, .int .u8 0, .int .u8 0, .int .u8 0, .int .u8 0, .int .u8 0, .int .u8 0, .int .u8 0, .int .u8 0, .int .u8 0, .int .u8 0, .int .u8 0, .int .u8 0, .int .u8 0, .int .u8 0, .int .u8 0, .int .u8 0, .int .u8 0, .int .u8 0, .int .u8 0, .int .u8 0, .int .u8 0, .int .u8 0, .int .u8 0, .int .u8 0, .int .u8 0, .int .u8 0, .int .u8 0, .int .u8 0, .int .u8 0, .bool false] 99)) = w2 at *
  obtain ⟨rb, hrb⟩ : ∃ rb, rb = w1.heap.size := ⟨_, rfl⟩
  rw [← hrb] at L0 ⊢
  clear hrb
  go_upto_region 9 with fail
  refine wp_region_lit ?_
  refine Step.p_move rfl _ rfl (.pointer (some ⟨rb + 1, 0, none⟩)) rfl ?_
  simp only [Act.put, sA9, sB9, sC9]
  refine Step.p_move rfl _ rfl (.slice (some ⟨g, off, none⟩) n cap) rfl ?_
  simp only [Act.put, sA9, sB9, sC9]
  have SC2 := Lib.hid (SC.out w2 (fun i hi => by obtain ⟨g0, o0, e, hc⟩ := HB.out i (by have := HN.out; omega); exact ⟨g0, o0, e, (L0.out.bel.cell (Frame.block_lt hc)).trans hc⟩))
  clear SC
  refine Step.p_wp rfl (Step.w_callx 45 [.tmp 30] _ rfl Tryz.func45 (by kernel_rfl) rfl [.slice (some ⟨g, off, none⟩) n cap] rfl (SC2.out) ?_)
  rintro e w4a ⟨kb, rfl, hb⟩
  refine ⟨_, rfl, ?_⟩
  simp only [Act.put, sA9, sB9, sC9]
  have L2a := Lib.hid (L0.out.next hb)
  clear hb L0
  obtain ⟨C1, hC1, hs1⟩ := L2a.out.ci
  have HC1 := Lib.hid hC1
  clear hC1
  refine Step.p_val rfl (.pointer (some ⟨rb + 1, 0, none⟩)) (by unfold execOp; go_simp; try rfl) ?_
  simp only [Act.put, sA9, sB9, sC9]
  refine Tree.p_field rfl _ _ _ rfl (rb + 1) (0) rfl Tryz.underlying99 rfl (sz := 1) (by kernel_rfl) (by decide) (6) rfl ?_
  simp only [Act.put, sA9, sB9, sC9]
  refine Step.p_storeV rfl 97 _ _ rfl (rb + 1) 6 rfl (.pointer (some ⟨kb, 0, none⟩)) rfl (fun _ e => by cases e) rfl (by kernel_rfl) HC1.out (by omega) ?_
  intro w4 hr hg _
  simp only [Act.put]
  refine wpList_nil ?_
  have L2 := Lib.hid (L2a.out.put _ hr (by simpa using hs1) hg)
  clear hr hg HC1 hs1 L2a
  go_upto_region 23 with fail
  refine wp_region_lit ?_
  refine Tree.p_field rfl _ _ _ rfl (rb) (0) rfl Tryz.underlying45 rfl (sz := 1) (by kernel_rfl) (by decide) (2) rfl ?_
  simp only [Act.put, sA9, sB9, sC9]
  refine Tree.p_load1 rfl _ _ rfl (rb) (2) rfl (.string ⟨#[]⟩) ((cell_of_row _ _ _ _ _ _ L2.out.row).trans rfl) Tryz.underlying9 rfl ?_
  simp only [Act.put, sA9, sB9, sC9]
  refine Step.p_val rfl (.bool false) (by unfold execOp; go_simp; try rfl) ?_
  simp only [Act.put, sA9, sB9, sC9]
  refine wpList_nil ?_
  go_wp2
  go_ret2
  exact ⟨rb + 1, rfl, L2.out.bel⟩
set_option maxRecDepth 100000 in
set_option maxHeartbeats 4000000 in
theorem newK10_any (i0 : Nat) (hi : i0 < 3) (g off cap : Nat) (F : Nat → Nat) (hF : ∀ j, F j < 256) (w : World) (hB : BL w (some ⟨g, off, none⟩) (8 * (4 + 2 * i0)) F) (hcap : (8 * (4 + 2 * i0)) ≤ cap) (hcm : cap ≤ 9223372036854775807) (hM : Modes w) (_hG : RgW w) :
    Calls Tryz.prog 24 #[.string (name (1 + 17 * i0 + 10)), .slice (some ⟨g, off, none⟩) (8 * (4 + 2 * i0)) cap] w fun e w' => ∃ rb, e = .returned (.tuple #[.pointer (some ⟨rb, 0, none⟩), .int .i64 0]) ∧ Below w.heap.size w w' := by
  have FI := Lib.hid (find_any (1 + 17 * i0 + 10) (by omega) w hM)
  have RA : rowL (1 + 17 * i0 + 10) = [.string (pre i0 ++ nm 10), .string ⟨#[120, 116, 115]⟩, .string ⟨#[112, 108, 97, 105, 110]⟩, .int .i64 (16 + 8 * (i0 : Int)), .int .i64 (((8 * (4 + 2 * i0)) : Nat) : Int)] := by
    rw [rowL_at i0 10 (by decide)]
    have e : szT i0 10 = (((8 * (4 + 2 * i0)) : Nat) : Int) := by
      unfold szT
      rw [if_pos (by decide)]
      simp []
      try omega
    rw [e]
    rfl
  rw [RA] at FI
  have SC := Lib.hid (fun w' h => schedule_any g off (4 + 2 * i0) cap (by omega) F hF (by omega) hcm w' h)
  have SD := Lib.hid (fun w' h => schedule_any g (off + 4 * (4 + 2 * i0)) (4 + 2 * i0) (cap - 4 * (4 + 2 * i0)) (by omega) (fun i => F (4 * (4 + 2 * i0) + i)) (fun _ => hF _) (by omega) (by omega) w' h)
  have HB := Lib.hid hB
  clear hB RA hM
  have hnk : 4 ≤ 4 + 2 * i0 ∧ 4 + 2 * i0 ≤ 8 := by omega
  generalize 4 + 2 * i0 = nk at *
  generalize hn : 8 * nk = n at *
  have HN := Lib.hid hn
  clear hn
  generalize pre i0 ++ nm 10 = spec at *
  generalize name (1 + 17 * i0 + 10) = spec2 at *
  have hnl : 16 ≤ n ∧ n ≤ 64 := by have := HN.out; omega
  go_enter Tryz.func24, Tryz.ntmps24
  go_upto_region 14 with (go_at_call 18; refine FI.out.mono ?_; rintro e w1 ⟨rfl, hb⟩)
  have L0 : Hid (LW w1.heap.size #[.string spec, .string ⟨#[120, 116, 115]⟩, .string ⟨#[112, 108, 97, 105, 110]⟩, .int .i64 (16 + 8 * (i0 : Int)), .int .i64 (n : Nat)] w ((w1.alloc (.cells #[.string spec, .string ⟨#[120, 116, 115]⟩, .string ⟨#[112, 108, 97, 105, 110]⟩, .int .i64 (16 + 8 * (i0 : Int)), .int .i64 (n : Nat)] 45)).alloc (.cells #[.string spec, .string ⟨#[120, 116, 115]⟩, .string ⟨#[112, 108, 97, 105, 110]⟩, .int .i64 (16 + 8 * (i0 : Int)), .int .i64 (n : Nat), .int .i64 (n : Nat), .pointer none, .pointer none, .pointer none, .int .u8 0, .int .u8 0, .int .u8 0, .int .u8 0, .int .u8 0, .int .u8 0, .int .u8 0, .int .u8 0, .int .u8 0, .int .u8 0, .int .u8 0, .int .u8 0, .int .u8 0, .int .u8 0, .int .u8 0, .int .u8 0, .int .u8 0, .int .u8 0, .int .u8 0, .int .u8 0, .int .u8 0, .int .u8 0, .int .u8 0, .int .u8 0, .int .u8 0, .int .u8 0, .int .u8 0, .int .u8 0, .int .u8 0, .int .u8 0, .int .u8 0, .int .u8 0, .bool false] 99))) := Lib.hid ⟨(heap_alloc_old _ _ (by rw [World.size_alloc]; exact Nat.lt_succ_self _)).trans (heap_alloc_new w1 _), ⟨#[.string spec, .string ⟨#[120, 116, 115]⟩, .string ⟨#[112, 108, 97, 105, 110]⟩, .int .i64 (16 + 8 * (i0 : Int)), .int .i64 (n : Nat), .int .i64 (n : Nat), .pointer none, .pointer none, .pointer none, .int .u8 0, .int .u8 0, .int .u8 0, .int .u8 0, .int .u8 0, .int .u8 0, .int .u8 0, .int .u8 0, .int .u8 0, .int .u8 0, .int .u8 0, .int .u8 0, .int .u8 0, .int .u8 0, .int .u8 0, .int .u8 0, .int .u8 0, .int .u8 0, .int .u8 0, .int .u8 0, .int .u8 0, .int .u8 0, .int .u8 0, .int .u8 0, .int .u8 0, .int .u8 0, .int .u8 0, .int .u8 0, .int .u8 0, .int .u8 0, .int .u8 0, .int .u8 0, .bool false], (by have h := heap_alloc_new (w1.alloc (.cells #[.string spec, .string ⟨#[120, 116, 115]⟩, .string ⟨#[112, 108, 97, 105, 110]⟩, .int .i64 (16 + 8 * (i0 : Int)), .int .i64 (n : Nat)] 45)) (.cells #[.string spec, .string ⟨#[120, 116, 115]⟩, .string ⟨#[112, 108, 97, 105, 110]⟩, .int .i64 (16 + 8 * (i0 : Int)), .int .i64 (n : Nat), .int .i64 (n : Nat), .pointer none, .pointer none, .pointer none, .int .u8 0, .int .u8 0, .int .u8 0, .int .u8 0, .int .u8 0, .int .u8 0, .int .u8 0, .int .u8 0, .int .u8 0, .int .u8 0, .int .u8 0, .int .u8 0, .int .u8 0, .int .u8 0, .int .u8 0, .int .u8 0, .int .u8 0, .int .u8 0, .int .u8 0, .int .u8 0, .int .u8 0, .int .u8 0, .int .u8 0, .int .u8 0, .int .u8 0, .int .u8 0, .int .u8 0, .int .u8 0, .int .u8 0, .int .u8 0, .int .u8 0, .int .u8 0, .bool false] 99); rw [World.size_alloc] at h; exact h), rfl⟩, (hb.alloc hb.size _).alloc (by rw [World.size_alloc]; exact Nat.le_succ_of_le hb.size) _, hb.size⟩
  clear hb
  generalize ((w1.alloc (.cells #[.string spec, .string ⟨#[120, 116, 115]⟩, .string ⟨#[112, 108, 97, 105, 110]⟩, .int .i64 (16 + 8 * (i0 : Int)), .int .i64 (n : Nat)] 45)).alloc (.cells #[.string spec, .string ⟨#[120, 116, 115]⟩, .string ⟨#[112, 108, 97, 105, 110]⟩, .int .i64 (16 + 8 * (i0 : Int)), .int .i64 (n : Nat), .int .i64 (n : Nat), .pointer none, .pointer none, .pointer none, .int .u8 0, .int .u8 0, .int .u8 0, .int .u8 0, .int .u8 0, .int .u8 0, .int .u8 0, .int .u8 0, .int .u8 0, .int .u8 0, .int .u8 0, .int .u8 0, .int .u8 0, .int .u8 0, .int .u8 0, .int .u8 0, .int .u8 0, .int .u8 0, .int .u8 0, .int .u8 0, .int .u8 0, .int .u8 0, .int .u8 0, .int .u8 0, .int .u8 0, .int .u8 0, .int .u8 0, .int .u8 0, .int .u8 0, .int .u8 0, .int .u8 0, .int .u8 0, .bool false] 99)) = w2 at *
  obtain ⟨rb, hrb⟩ : ∃ rb, rb = w1.heap.size := ⟨_, rfl⟩
  rw [← hrb] at L0 ⊢
  clear hrb
  go_upto_region 14 with fail
  refine wp_region_lit ?_
  refine Step.p_move rfl _ rfl (.pointer (some ⟨rb + 1, 0, none⟩)) rfl ?_
  simp only [Act.put, sA9, sB9, sC9]
  refine Step.p_move rfl _ rfl (.slice (some ⟨g, off, none⟩) n cap) rfl ?_
  simp only [Act.put, sA9, sB9, sC9]
  refine Step.p_move rfl _ rfl (.int .i64 n) rfl ?_
  simp only [Act.put, sA9, sB9, sC9]
  refine Step.p_val rfl (.int .i64 (4 * nk : Nat)) (by unfold execOp; have := HN.out; have h2 : (n : Int).tdiv 2 = 4 * (nk : Int) := (by rw [Int.tdiv_eq_ediv_of_nonneg (by omega)]; omega); go_simp; try (first | omega | (rw [h2]; exact (IntWalk.i64_in _ (by omega)).trans (by omega)) | exact (IntWalk.i64_in _ (by omega)).trans (by omega))) ?_
  simp only [Act.put, sA9, sB9, sC9]
  refine Step.p_val rfl (.slice (some ⟨g, off, none⟩) (4 * nk) cap) (by unfold execOp; have := HN.out; go_simp; rw [if_pos ⟨by omega, by omega⟩, show (4 * (nk : Int)).toNat = 4 * nk by omega]) ?_
  simp only [Act.put, sA9, sB9, sC9]
  have SC2 := Lib.hid (SC.out w2 (fun i hi => by obtain ⟨g0, o0, e, hc⟩ := HB.out i (by have := HN.out; omega); exact ⟨g0, o0, e, (L0.out.bel.cell (Frame.block_lt hc)).trans hc⟩))
  clear SC
  refine Step.p_wp rfl (Step.w_callx 45 [.tmp 44] _ rfl Tryz.func45 (by kernel_rfl) rfl [.slice (some ⟨g, off, none⟩) (4 * nk) cap] rfl (SC2.out) ?_)
  rintro e w4a ⟨kb, rfl, hb⟩
  refine ⟨_, rfl, ?_⟩
  simp only [Act.put, sA9, sB9, sC9]
  have L2a := Lib.hid (L0.out.next hb)
  clear hb L0
  obtain ⟨C1, hC1, hs1⟩ := L2a.out.ci
  have HC1 := Lib.hid hC1
  clear hC1
  refine Step.p_val rfl (.pointer (some ⟨rb + 1, 0, none⟩)) (by unfold execOp; go_simp; try rfl) ?_
  simp only [Act.put, sA9, sB9, sC9]
  refine Tree.p_field rfl _ _ _ rfl (rb + 1) (0) rfl Tryz.underlying99 rfl (sz := 1) (by kernel_rfl) (by decide) (6) rfl ?_
  simp only [Act.put, sA9, sB9, sC9]
  refine Step.p_storeV rfl 97 _ _ rfl (rb + 1) 6 rfl (.pointer (some ⟨kb, 0, none⟩)) rfl (fun _ e => by cases e) rfl (by kernel_rfl) HC1.out (by omega) ?_
  intro w4 hr hg _
  simp only [Act.put]
  refine wpList_nil ?_
  have L2 := Lib.hid (L2a.out.put _ hr (by simpa using hs1) hg)
  clear hr hg HC1 hs1 L2a
  go_upto_region 15 with fail
  refine wp_region_lit ?_
  refine Step.p_move rfl _ rfl (.pointer (some ⟨rb + 1, 0, none⟩)) rfl ?_
  simp only [Act.put, sA9, sB9, sC9]
  refine Step.p_move rfl _ rfl (.slice (some ⟨g, off, none⟩) n cap) rfl ?_
  simp only [Act.put, sA9, sB9, sC9]
  refine Step.p_move rfl _ rfl (.int .i64 n) rfl ?_
  simp only [Act.put, sA9, sB9, sC9]
  refine Step.p_val rfl (.int .i64 (4 * nk : Nat)) (by unfold execOp; have := HN.out; have h2 : (n : Int).tdiv 2 = 4 * (nk : Int) := (by rw [Int.tdiv_eq_ediv_of_nonneg (by omega)]; omega); go_simp; try (first | omega | (rw [h2]; exact (IntWalk.i64_in _ (by omega)).trans (by omega)) | exact (IntWalk.i64_in _ (by omega)).trans (by omega))) ?_
  simp only [Act.put, sA9, sB9, sC9]
  refine Step.p_val rfl (.slice (some ⟨g, off + 4 * nk, none⟩) (4 * nk) (cap - 4 * nk)) (by unfold execOp; have := HN.out; go_simp; rw [if_pos ⟨by omega, by omega⟩, show (4 * (nk : Int)).toNat = 4 * nk by omega, if_neg (by omega), show n - 4 * nk = 4 * nk by omega]) ?_
  simp only [Act.put, sA9, sB9, sC9]
  have SD2 := Lib.hid (SD.out w4 (fun i hi => by obtain ⟨g0, o0, e, hc⟩ := HB.out (4 * nk + i) (by have := HN.out; omega); cases e; exact ⟨g, off + 4 * nk, rfl, by rw [Nat.add_assoc]; exact (L2.out.bel.cell (p := ⟨g, off + (4 * nk + i), none⟩) (Frame.block_lt hc)).trans hc⟩))
  clear SD
  refine Step.p_wp rfl (Step.w_callx 45 [.tmp 52] _ rfl Tryz.func45 (by kernel_rfl) rfl [.slice (some ⟨g, off + 4 * nk, none⟩) (4 * nk) (cap - 4 * nk)] rfl (SD2.out) ?_)
  rintro e w5a ⟨kb2, rfl, hb⟩
  refine ⟨_, rfl, ?_⟩
  simp only [Act.put, sA9, sB9, sC9]
  have L3a := Lib.hid (L2.out.next hb)
  clear hb L2
  obtain ⟨C1, hC1, hs1⟩ := L3a.out.ci
  have HC1 := Lib.hid hC1
  clear hC1
  refine Step.p_val rfl (.pointer (some ⟨rb + 1, 0, none⟩)) (by unfold execOp; go_simp; try rfl) ?_
  simp only [Act.put, sA9, sB9, sC9]
  refine Tree.p_field rfl _ _ _ rfl (rb + 1) (0) rfl Tryz.underlying99 rfl (sz := 1) (by kernel_rfl) (by decide) (7) rfl ?_
  simp only [Act.put, sA9, sB9, sC9]
  refine Step.p_storeV rfl 97 _ _ rfl (rb + 1) 7 rfl (.pointer (some ⟨kb2, 0, none⟩)) rfl (fun _ e => by cases e) rfl (by kernel_rfl) HC1.out (by omega) ?_
  intro w5 hr hg _
  simp only [Act.put]
  refine wpList_nil ?_
  have L3 := Lib.hid (L3a.out.put _ hr (by simpa using hs1) hg)
  clear hr hg HC1 hs1 L3a
  go_upto_region 23 with fail
  refine wp_region_lit ?_
  refine Tree.p_field rfl _ _ _ rfl (rb) (0) rfl Tryz.underlying45 rfl (sz := 1) (by kernel_rfl) (by decide) (2) rfl ?_
  simp only [Act.put, sA9, sB9, sC9]
  refine Tree.p_load1 rfl _ _ rfl (rb) (2) rfl (.string ⟨#[112, 108, 97, 105, 110]⟩) ((cell_of_row _ _ _ _ _ _ L3.out.row).trans rfl) Tryz.underlying9 rfl ?_
  simp only [Act.put, sA9, sB9, sC9]
  refine Step.p_val rfl (.bool false) (by unfold execOp; go_simp; try rfl) ?_
  simp only [Act.put, sA9, sB9, sC9]
  refine wpList_nil ?_
  go_wp2
  go_ret2
  exact ⟨rb + 1, rfl, L3.out.bel⟩
set_option maxRecDepth 100000 in
set_option maxHeartbeats 4000000 in
theorem newK11_any (i0 : Nat) (hi : i0 < 3) (g off cap : Nat) (F : Nat → Nat) (hF : ∀ j, F j < 256) (w : World) (hB : BL w (some ⟨g, off, none⟩) (8 * (4 + 2 * i0)) F) (hcap : (8 * (4 + 2 * i0)) ≤ cap) (hcm : cap ≤ 9223372036854775807) (hM : Modes w) (_hG : RgW w) :
    Calls Tryz.prog 24 #[.string (name (1 + 17 * i0 + 11)), .slice (some ⟨g, off, none⟩) (8 * (4 + 2 * i0)) cap] w fun e w' => ∃ rb, e = .returned (.tuple #[.pointer (some ⟨rb, 0, none⟩), .int .i64 0]) ∧ Below w.heap.size w w' := by
  have FI := Lib.hid (find_any (1 + 17 * i0 + 11) (by omega) w hM)
  have RA : rowL (1 + 17 * i0 + 11) = [.string (pre i0 ++ nm 11), .string ⟨#[120, 116, 115]⟩, .string ⟨#[112, 108, 97, 105, 110, 54, 52]⟩, .int .i64 (16 + 8 * (i0 : Int)), .int .i64 (((8 * (4 + 2 * i0)) : Nat) : Int)] := by
    rw [rowL_at i0 11 (by decide)]
    have e : szT i0 11 = (((8 * (4 + 2 * i0)) : Nat) : Int) := by
      unfold szT
      rw [if_pos (by decide)]
      simp []
      try omega
    rw [e]
    rfl
  rw [RA] at FI
  have SC := Lib.hid (fun w' h => schedule_any g off (4 + 2 * i0) cap (by omega) F hF (by omega) hcm w' h)
  have SD := Lib.hid (fun w' h => schedule_any g (off + 4 * (4 + 2 * i0)) (4 + 2 * i0) (cap - 4 * (4 + 2 * i0)) (by omega) (fun i => F (4 * (4 + 2 * i0) + i)) (fun _ => hF _) (by omega) (by omega) w' h)
  have HB := Lib.hid hB
  clear hB RA hM
  have hnk : 4 ≤ 4 + 2 * i0 ∧ 4 + 2 * i0 ≤ 8 := by omega
  generalize 4 + 2 * i0 = nk at *
  generalize hn : 8 * nk = n at *
  have HN := Lib.hid hn
  clear hn
  generalize pre i0 ++ nm 11 = spec at *
  generalize name (1 + 17 * i0 + 11) = spec2 at *
  have hnl : 16 ≤ n ∧ n ≤ 64 := by have := HN.out; omega
  go_enter Tryz.func24, Tryz.ntmps24
  go_upto_region 14 with (go_at_call 18; refine FI.out.mono ?_; rintro e w1 ⟨rfl, hb⟩)
  have L0 : Hid (LW w1.heap.size #[.string spec, .string ⟨#[120, 116, 115]⟩, .string ⟨#[112, 108, 97, 105, 110, 54, 52]⟩, .int .i64 (16 + 8 * (i0 : Int)), .int .i64 (n : Nat)] w ((w1.alloc (.cells #[.string spec, .string ⟨#[120, 116, 115]⟩, .string ⟨#[112, 108, 97, 105, 110, 54, 52]⟩, .int .i64 (16 + 8 * (i0 : Int)), .int .i64 (n : Nat)] 45)).alloc (.cells #[.string spec, .string ⟨#[120, 116, 115]⟩, .string ⟨#[112, 108, 97, 105, 110, 54, 52]⟩, .int .i64 (16 + 8 * (i0 : Int)), .int .i64 (n : Nat), .int .i64 (n : Nat), .pointer none, .pointer none, .pointer none, .int .u8 0, .int .u8 0, .int .u8 0, .int .u8 0, .int .u8 0, .int .u8 0, .int .u8 0, .int .u8 0, .int .u8 0, .int .u8 0, .int .u8 0, .int .u8 0, .int .u8 0, .int .u8 0, .int .u8 0, .int .u8 0, .int .u8 0, .int .u8 0, .int .u8 0, .int .u8 0, .int .u8 0, .int .u8 0, .int .u8 0, .int .u8 0, .int .u8 0, .int .u8 0, .int .u8 0, .int .u8 0, .int .u8 0, .int .u8 0, .int .u8 0, .int .u8 0, .bool false] 99))) := Lib.hid ⟨(heap_alloc_old _ _ (by rw [World.size_alloc]; exact Nat.lt_succ_self _)).trans (heap_alloc_new w1 _), ⟨#[.string spec, .string ⟨#[120, 116, 115]⟩, .string ⟨#[112, 108, 97, 105, 110, 54, 52]⟩, .int .i64 (16 + 8 * (i0 : Int)), .int .i64 (n : Nat), .int .i64 (n : Nat), .pointer none, .pointer none, .pointer none, .int .u8 0, .int .u8 0, .int .u8 0, .int .u8 0, .int .u8 0, .int .u8 0, .int .u8 0, .int .u8 0, .int .u8 0, .int .u8 0, .int .u8 0, .int .u8 0, .int .u8 0, .int .u8 0, .int .u8 0, .int .u8 0, .int .u8 0, .int .u8 0, .int .u8 0, .int .u8 0, .int .u8 0, .int .u8 0, .int .u8 0, .int .u8 0, .int .u8 0, .int .u8 0, .int .u8 0, .int .u8 0, .int .u8 0, .int .u8 0, .int .u8 0, .int .u8 0, .bool false], (by have h := heap_alloc_new (w1.alloc (.cells #[.string spec, .string ⟨#[120, 116, 115]⟩, .string ⟨#[112, 108, 97, 105, 110, 54, 52]⟩, .int .i64 (16 + 8 * (i0 : Int)), .int .i64 (n : Nat)] 45)) (.cells #[.string spec, .string ⟨#[120, 116, 115]⟩, .string ⟨#[112, 108, 97, 105, 110, 54, 52]⟩, .int .i64 (16 + 8 * (i0 : Int)), .int .i64 (n : Nat), .int .i64 (n : Nat), .pointer none, .pointer none, .pointer none, .int .u8 0, .int .u8 0, .int .u8 0, .int .u8 0, .int .u8 0, .int .u8 0, .int .u8 0, .int .u8 0, .int .u8 0, .int .u8 0, .int .u8 0, .int .u8 0, .int .u8 0, .int .u8 0, .int .u8 0, .int .u8 0, .int .u8 0, .int .u8 0, .int .u8 0, .int .u8 0, .int .u8 0, .int .u8 0, .int .u8 0, .int .u8 0, .int .u8 0, .int .u8 0, .int .u8 0, .int .u8 0, .int .u8 0, .int .u8 0, .int .u8 0, .int .u8 0, .bool false] 99); rw [World.size_alloc] at h; exact h), rfl⟩, (hb.alloc hb.size _).alloc (by rw [World.size_alloc]; exact Nat.le_succ_of_le hb.size) _, hb.size⟩
  clear hb
  generalize ((w1.alloc (.cells #[.string spec, .string ⟨#[120, 116, 115]⟩, .string ⟨#[112, 108, 97, 105, 110, 54, 52]⟩, .int .i64 (16 + 8 * (i0 : Int)), .int .i64 (n : Nat)] 45)).alloc (.cells #[.string spec, .string ⟨#[120, 116, 115]⟩, .string ⟨#[112, 108, 97, 105, 110, 54, 52]⟩, .int .i64 (16 + 8 * (i0 : Int)), .int .i64 (n : Nat), .int .i64 (n : Nat), .pointer none, .pointer none, .pointer none, .int .u8 0, .int .u8 0, .int .u8 0, .int .u8 0, .int .u8 0, .int .u8 0, .int .u8 0, .int .u8 0, .int .u8 0, .int .u8 0, .int .u8 0, .int .u8 0, .int .u8 0, .int .u8 0, .int .u8 0, .int .u8 0, .int .u8 0, .int .u8 0, .int .u8 0, .int .u8 0, .int .u8 0, .int .u8 0, .int .u8 0, .int .u8 0, .int .u8 0, .int .u8 0, .int .u8 0, .int .u8 0, .int .u8 0, .int .u8 0, .int .u8 0, .int .u8 0, .bool false] 99)) = w2 at *
  obtain ⟨rb, hrb⟩ : ∃ rb, rb = w1.heap.size := ⟨_, rfl⟩
  rw [← hrb] at L0 ⊢
  clear hrb
  go_upto_region 14 with fail
  refine wp_region_lit ?_
  refine Step.p_move rfl _ rfl (.pointer (some ⟨rb + 1, 0, none⟩)) rfl ?_
  simp only [Act.put, sA9, sB9, sC9]
  refine Step.p_move rfl _ rfl (.slice (some ⟨g, off, none⟩) n cap) rfl ?_
  simp only [Act.put, sA9, sB9, sC9]
  refine Step.p_move rfl _ rfl (.int .i64 n) rfl ?_
  simp only [Act.put, sA9, sB9, sC9]
  refine Step.p_val rfl (.int .i64 (4 * nk : Nat)) (by unfold execOp; have := HN.out; have h2 : (n : Int).tdiv 2 = 4 * (nk : Int) := (by rw [Int.tdiv_eq_ediv_of_nonneg (by omega)]; omega); go_simp; try (first | omega | (rw [h2]; exact (IntWalk.i64_in _ (by omega)).trans (by omega)) | exact (IntWalk.i64_in _ (by omega)).trans (by omega))) ?_
  simp only [Act.put, sA9, sB9, sC9]
  refine Step.p_val rfl (.slice (some ⟨g, off, none⟩) (4 * nk) cap) (by unfold execOp; have := HN.out; go_simp; rw [if_pos ⟨by omega, by omega⟩, show (4 * (nk : Int)).toNat = 4 * nk by omega]) ?_
  simp only [Act.put, sA9, sB9, sC9]
  have SC2 := Lib.hid (SC.out w2 (fun i hi => by obtain ⟨g0, o0, e, hc⟩ := HB.out i (by have := HN.out; omega); exact ⟨g0, o0, e, (L0.out.bel.cell (Frame.block_lt hc)).trans hc⟩))
  clear SC
  refine Step.p_wp rfl (Step.w_callx 45 [.tmp 44] _ rfl Tryz.func45 (by kernel_rfl) rfl [.slice (some ⟨g, off, none⟩) (4 * nk) cap] rfl (SC2.out) ?_)
  rintro e w4a ⟨kb, rfl, hb⟩
  refine ⟨_, rfl, ?_⟩
  simp only [Act.put, sA9, sB9, sC9]
  have L2a := Lib.hid (L0.out.next hb)
  clear hb L0
  obtain ⟨C1, hC1, hs1⟩ := L2a.out.ci
  have HC1 := Lib.hid hC1
  clear hC1
  refine Step.p_val rfl (.pointer (some ⟨rb + 1, 0, none⟩)) (by unfold execOp; go_simp; try rfl) ?_
  simp only [Act.put, sA9, sB9, sC9]
  refine Tree.p_field rfl _ _ _ rfl (rb + 1) (0) rfl Tryz.underlying99 rfl (sz := 1) (by kernel_rfl) (by decide) (6) rfl ?_
  simp only [Act.put, sA9, sB9, sC9]
  refine Step.p_storeV rfl 97 _ _ rfl (rb + 1) 6 rfl (.pointer (some ⟨kb, 0, none⟩)) rfl (fun _ e => by cases e) rfl (by kernel_rfl) HC1.out (by omega) ?_
  intro w4 hr hg _
  simp only [Act.put]
  refine wpList_nil ?_
  have L2 := Lib.hid (L2a.out.put _ hr (by simpa using hs1) hg)
  clear hr hg HC1 hs1 L2a
  go_upto_region 15 with fail
  refine wp_region_lit ?_
  refine Step.p_move rfl _ rfl (.pointer (some ⟨rb + 1, 0, none⟩)) rfl ?_
  simp only [Act.put, sA9, sB9, sC9]
  refine Step.p_move rfl _ rfl (.slice (some ⟨g, off, none⟩) n cap) rfl ?_
  simp only [Act.put, sA9, sB9, sC9]
  refine Step.p_move rfl _ rfl (.int .i64 n) rfl ?_
  simp only [Act.put, sA9, sB9, sC9]
  refine Step.p_val rfl (.int .i64 (4 * nk : Nat)) (by unfold execOp; have := HN.out; have h2 : (n : Int).tdiv 2 = 4 * (nk : Int) := (by rw [Int.tdiv_eq_ediv_of_nonneg (by omega)]; omega); go_simp; try (first | omega | (rw [h2]; exact (IntWalk.i64_in _ (by omega)).trans (by omega)) | exact (IntWalk.i64_in _ (by omega)).trans (by omega))) ?_
  simp only [Act.put, sA9, sB9, sC9]
  refine Step.p_val rfl (.slice (some ⟨g, off + 4 * nk, none⟩) (4 * nk) (cap - 4 * nk)) (by unfold execOp; have := HN.out; go_simp; rw [if_pos ⟨by omega, by omega⟩, show (4 * (nk : Int)).toNat = 4 * nk by omega, if_neg (by omega), show n - 4 * nk = 4 * nk by omega]) ?_
  simp only [Act.put, sA9, sB9, sC9]
  have SD2 := Lib.hid (SD.out w4 (fun i hi => by obtain ⟨g0, o0, e, hc⟩ := HB.out (4 * nk + i) (by have := HN.out; omega); cases e; exact ⟨g, off + 4 * nk, rfl, by rw [Nat.add_assoc]; exact (L2.out.bel.cell (p := ⟨g, off + (4 * nk + i), none⟩) (Frame.block_lt hc)).trans hc⟩))
  clear SD
  refine Step.p_wp rfl (Step.w_callx 45 [.tmp 52] _ rfl Tryz.func45 (by kernel_rfl) rfl [.slice (some ⟨g, off + 4 * nk, none⟩) (4 * nk) (cap - 4 * nk)] rfl (SD2.out) ?_)
  rintro e w5a ⟨kb2, rfl, hb⟩
  refine ⟨_, rfl, ?_⟩
  simp only [Act.put, sA9, sB9, sC9]
  have L3a := Lib.hid (L2.out.next hb)
  clear hb L2
  obtain ⟨C1, hC1, hs1⟩ := L3a.out.ci
  have HC1 := Lib.hid hC1
  clear hC1
  refine Step.p_val rfl (.pointer (some ⟨rb + 1, 0, none⟩)) (by unfold execOp; go_simp; try rfl) ?_
  simp only [Act.put, sA9, sB9, sC9]
  refine Tree.p_field rfl _ _ _ rfl (rb + 1) (0) rfl Tryz.underlying99 rfl (sz := 1) (by kernel_rfl) (by decide) (7) rfl ?_
  simp only [Act.put, sA9, sB9, sC9]
  refine Step.p_storeV rfl 97 _ _ rfl (rb + 1) 7 rfl (.pointer (some ⟨kb2, 0, none⟩)) rfl (fun _ e => by cases e) rfl (by kernel_rfl) HC1.out (by omega) ?_
  intro w5 hr hg _
  simp only [Act.put]
  refine wpList_nil ?_
  have L3 := Lib.hid (L3a.out.put _ hr (by simpa using hs1) hg)
  clear hr hg HC1 hs1 L3a
  go_upto_region 23 with fail
  refine wp_region_lit ?_
  refine Tree.p_field rfl _ _ _ rfl (rb) (0) rfl Tryz.underlying45 rfl (sz := 1) (by kernel_rfl) (by decide) (2) rfl ?_
  simp only [Act.put, sA9, sB9, sC9]
  refine Tree.p_load1 rfl _ _ rfl (rb) (2) rfl (.string ⟨#[112, 108, 97, 105, 110, 54, 52]⟩) ((cell_of_row _ _ _ _ _ _ L3.out.row).trans rfl) Tryz.underlying9 rfl ?_
  simp only [Act.put, sA9, sB9, sC9]
  refine Step.p_val rfl (.bool false) (by unfold execOp; go_simp; try rfl) ?_
  simp only [Act.put, sA9, sB9, sC9]
  refine wpList_nil ?_
  go_wp2
  go_ret2
  exact ⟨rb + 1, rfl, L3.out.bel⟩
set_option maxRecDepth 100000 in
set_option maxHeartbeats 4000000 in
theorem newK12_any (i0 : Nat) (hi : i0 < 3) (g off cap : Nat) (F : Nat → Nat) (hF : ∀ j, F j < 256) (w : World) (hB : BL w (some ⟨g, off, none⟩) (8 * (4 + 2 * i0)) F) (hcap : (8 * (4 + 2 * i0)) ≤ cap) (hcm : cap ≤ 9223372036854775807) (hM : Modes w) (_hG : RgW w) :
    Calls Tryz.prog 24 #[.string (name (1 + 17 * i0 + 12)), .slice (some ⟨g, off, none⟩) (8 * (4 + 2 * i0)) cap] w fun e w' => ∃ rb, e = .returned (.tuple #[.pointer (some ⟨rb, 0, none⟩), .int .i64 0]) ∧ Below w.heap.size w w' := by
  have FI := Lib.hid (find_any (1 + 17 * i0 + 12) (by omega) w hM)
  have RA : rowL (1 + 17 * i0 + 12) = [.string (pre i0 ++ nm 12), .string ⟨#[120, 116, 115]⟩, .string ⟨#[112, 108, 97, 105, 110, 54, 52, 98, 101]⟩, .int .i64 (16 + 8 * (i0 : Int)), .int .i64 (((8 * (4 + 2 * i0)) : Nat) : Int)] := by
    rw [rowL_at i0 12 (by decide)]
    have e : szT i0 12 = (((8 * (4 + 2 * i0)) : Nat) : Int) := by
      unfold szT
      rw [if_pos (by decide)]
      simp []
      try omega
    rw [e]
    rfl
  rw [RA] at FI
  have SC := Lib.hid (fun w' h => schedule_any g off (4 + 2 * i0) cap (by omega) F hF (by omega) hcm w' h)
  have SD := Lib.hid (fun w' h => schedule_any g (off + 4 * (4 + 2 * i0)) (4 + 2 * i0) (cap - 4 * (4 + 2 * i0)) (by omega) (fun i => F (4 * (4 + 2 * i0) + i)) (fun _ => hF _) (by omega) (by omega) w' h)
  have HB := Lib.hid hB
  clear hB RA hM
  have hnk : 4 ≤ 4 + 2 * i0 ∧ 4 + 2 * i0 ≤ 8 := by omega
  generalize 4 + 2 * i0 = nk at *
  generalize hn : 8 * nk = n at *
  have HN := Lib.hid hn
  clear hn
  generalize pre i0 ++ nm 12 = spec at *
  generalize name (1 + 17 * i0 + 12) = spec2 at *
  have hnl : 16 ≤ n ∧ n ≤ 64 := by have := HN.out; omega
  go_enter Tryz.func24, Tryz.ntmps24
  go_upto_region 14 with (go_at_call 18; refine FI.out.mono ?_; rintro e w1 ⟨rfl, hb⟩)
  have L0 : Hid (LW w1.heap.size #[.string spec, .string ⟨#[120, 116, 115]⟩, .string ⟨#[112, 108, 97, 105, 110, 54, 52, 98, 101]⟩, .int .i64 (16 + 8 * (i0 : Int)), .int .i64 (n : Nat)] w ((w1.alloc (.cells #[.string spec, .string ⟨#[120, 116, 115]⟩, .string ⟨#[112, 108, 97, 105, 110, 54, 52, 98, 101]⟩, .int .i64 (16 + 8 * (i0 : Int)), .int .i64 (n : Nat)] 45)).alloc (.cells #[.string spec, .string ⟨#[120, 116, 115]⟩, .string ⟨#[112, 108, 97, 105, 110, 54, 52, 98, 101]⟩, .int .i64 (16 + 8 * (i0 : Int)), .int .i64 (n : Nat), .int .i64 (n : Nat), .pointer none, .pointer none, .pointer none, .int .u8 0, .int .u8 0, .int .u8 0, .int .u8 0, .int .u8 0, .int .u8 0, .int .u8 0, .int .u8 0, .int .u8 0, .int .u8 0, .int .u8 0, .int .u8 0, .int .u8 0, .int .u8 0, .int .u8 0, .int .u8 0, .int .u8 0, .int .u8 0, .int .u8 0, .int .u8 0, .int .u8 0, .int .u8 0, .int .u8 0, .int .u8 0, .int .u8 0, .int .u8 0, .int .u8 0, .int .u8 0, .int .u8 0, .int .u8 0, .int .u8 0, .int .u8 0, .bool false] 99))) := Lib.hid ⟨(heap_alloc_old _ _ (by rw [World.size_alloc]; exact Nat.lt_succ_self _)).trans (heap_alloc_new w1 _), ⟨#[.string spec, .string ⟨#[120, 116, 115]⟩, .string ⟨#[112, 108, 97, 105, 110, 54, 52, 98, 101]⟩, .int .i64 (16 + 8 * (i0 : Int)), .int .i64 (n : Nat), .int .i64 (n : Nat), .pointer none, .pointer none, .pointer none, .int .u8 0, .int .u8 0, .int .u8 0, .int .u8 0, .int .u8 0, .int .u8 0, .int .u8 0, .int .u8 0, .int .u8 0, .int .u8 0, .int .u8 0, .int .u8 0, .int .u8 0, .int .u8 0, .int .u8 0, .int .u8 0, .int .u8 0, .int .u8 0, .int .u8 0, .int .u8 0, .int .u8 0, .int .u8 0, .int .u8 0, .int .u8 0, .int .u8 0, .int .u8 0, .int .u8 0, .int .u8 0, .int .u8 0, .int .u8 0, .int .u8 0, .int .u8 0, .bool false], (by have h := heap_alloc_new (w1.alloc (.cells #[.string spec, .string ⟨#[120, 116, 115]⟩, .string ⟨#[112, 108, 97, 105, 110, 54, 52, 98, 101]⟩, .int .i64 (16 + 8 * (i0 : Int)), .int .i64 (n : Nat)] 45)) (.cells #[.string spec, .string ⟨#[120, 116, 115]⟩, .string ⟨#[112, 108, 97, 105, 110, 54, 52, 98, 101]⟩, .int .i64 (16 + 8 * (i0 : Int)), .int .i64 (n : Nat), .int .i64 (n : Nat), .pointer none, .pointer none, .pointer none, .int .u8 0, .int .u8 0, .int .u8 0, .int .u8 0, .int .u8 0, .int .u8 0, .int .u8 0, .int .u8 0, .int .u8 0, .int .u8 0, .int .u8 0, .int .u8 0, .int .u8 0, .int .u8 0, .int .u8 0, .int .u8 0, .int .u8 0, .int .u8 0, .int .u8 0, .int .u8 0, .int .u8 0, .int .u8 0, .int .u8 0, .int .u8 0, .int .u8 0, .int .u8 0, .int .u8 0, .int .u8 0, .int .u8 0, .int .u8 0, .int .u8 0, .int .u8 0, .bool false] 99); rw [World.size_alloc] at h; exact h), rfl⟩, (hb.alloc hb.size _).alloc (by rw [World.size_alloc]; exact Nat.le_succ_of_le hb.size) _, hb.size⟩
  clear hb
  generalize ((w1.alloc (.cells #[.string spec, .string ⟨#[120, 116, 115]⟩, .string ⟨#[112, 108, 97, 105, 110, 54, 52, 98, 101]⟩, .int .i64 (16 + 8 * (i0 : Int)), .int .i64 (n : Nat)] 45)).alloc (.cells #[.string spec, .string ⟨#[120, 116, 115]⟩, .string ⟨#[112, 108, 97, 105, 110, 54, 52, 98, 101]⟩, .int .i64 (16 + 8 * (i0 : Int)), .int .i64 (n : Nat), .int .i64 (n : Nat), .pointer none, .pointer none, .pointer none, .int .u8 0, .int .u8 0, .int .u8 0, .int .u8 0, .int .u8 0, .int .u8 0, .int .u8 0, .int .u8 0, .int .u8 0, .int .u8 0, .int .u8 0, .int .u8 0, .int .u8 0, .int .u8 0, .int .u8 0, .int .u8 0, .int .u8 0, .int .u8 0, .int .u8 0, .int .u8 0, .int .u8 0, .int .u8 0, .int .u8 0, .int .u8 0, .int .u8 0, .int .u8 0, .int .u8 0, .int .u8 0, .int .u8 0, .int .u8 0, .int .u8 0, .int .u8 0, .bool false] 99)) = w2 at *
  obtain ⟨rb, hrb⟩ : ∃ rb, rb = w1.heap.size := ⟨_, rfl⟩
  rw [← hrb] at L0 ⊢
  clear hrb
  go_upto_region 14 with fail
  refine wp_region_lit ?_
  refine Step.p_move rfl _ rfl (.pointer (some ⟨rb + 1, 0, none⟩)) rfl ?_
  simp only [Act.put, sA9, sB9, sC9]
  refine Step.p_move rfl _ rfl (.slice (some ⟨g, off, none⟩) n cap) rfl ?_
  simp only [Act.put, sA9, sB9, sC9]
  refine Step.p_move rfl _ rfl (.int .i64 n) rfl ?_
  simp only [Act.put, sA9, sB9, sC9]
  refine Step.p_val rfl (.int .i64 (4 * nk : Nat)) (by unfold execOp; have := HN.out; have h2 : (n : Int).tdiv 2 = 4 * (nk : Int) := (by rw [Int.tdiv_eq_ediv_of_nonneg (by omega)]; omega); go_simp; try (first | omega | (rw [h2]; exact (IntWalk.i64_in _ (by omega)).trans (by omega)) | exact (IntWalk.i64_in _ (by omega)).trans (by omega))) ?_
  simp only [Act.put, sA9, sB9, sC9]
  refine Step.p_val rfl (.slice (some ⟨g, off, none⟩) (4 * nk) cap) (by unfold execOp; have := HN.out; go_simp; rw [if_pos ⟨by omega, by omega⟩, show (4 * (nk : Int)).toNat = 4 * nk by omega]) ?_
  simp only [Act.put, sA9, sB9, sC9]
  have SC2 := Lib.hid (SC.out w2 (fun i hi => by obtain ⟨g0, o0, e, hc⟩ := HB.out i (by have := HN.out; omega); exact ⟨g0, o0, e, (L0.out.bel.cell (Frame.block_lt hc)).trans hc⟩))
  clear SC
  refine Step.p_wp rfl (Step.w_callx 45 [.tmp 44] _ rfl Tryz.func45 (by kernel_rfl) rfl [.slice (some ⟨g, off, none⟩) (4 * nk) cap] rfl (SC2.out) ?_)
  rintro e w4a ⟨kb, rfl, hb⟩
  refine ⟨_, rfl, ?_⟩
  simp only [Act.put, sA9, sB9, sC9]
  have L2a := Lib.hid (L0.out.next hb)
  clear hb L0
  obtain ⟨C1, hC1, hs1⟩ := L2a.out.ci
  have HC1 := Lib.hid hC1
  clear hC1
  refine Step.p_val rfl (.pointer (some ⟨rb + 1, 0, none⟩)) (by unfold execOp; go_simp; try rfl) ?_
  simp only [Act.put, sA9, sB9, sC9]
  refine Tree.p_field rfl _ _ _ rfl (rb + 1) (0) rfl Tryz.underlying99 rfl (sz := 1) (by kernel_rfl) (by decide) (6) rfl ?_
  simp only [Act.put, sA9, sB9, sC9]
  refine Step.p_storeV rfl 97 _ _ rfl (rb + 1) 6 rfl (.pointer (some ⟨kb, 0, none⟩)) rfl (fun _ e => by cases e) rfl (by kernel_rfl) HC1.out (by omega) ?_
  intro w4 hr hg _
  simp only [Act.put]
  refine wpList_nil ?_
  have L2 := Lib.hid (L2a.out.put _ hr (by simpa using hs1) hg)
  clear hr hg HC1 hs1 L2a
  go_upto_region 15 with fail
  refine wp_region_lit ?_
  refine Step.p_move rfl _ rfl (.pointer (some ⟨rb + 1, 0, none⟩)) rfl ?_
  simp only [Act.put, sA9, sB9, sC9]
  refine Step.p_move rfl _ rfl (.slice (some ⟨g, off, none⟩) n cap) rfl ?_
  simp only [Act.put, sA9, sB9, sC9]
  refine Step.p_move rfl _ rfl (.int .i64 n) rfl ?_
  simp only [Act.put, sA9, sB9, sC9]
  refine Step.p_val rfl (.int .i64 (4 * nk : Nat)) (by unfold execOp; have := HN.out; have h2 : (n : Int).tdiv 2 = 4 * (nk : Int) := (by rw [Int.tdiv_eq_ediv_of_nonneg (by omega)]; omega); go_simp; try (first | omega | (rw [h2]; exact (IntWalk.i64_in _ (by omega)).trans (by omega)) | exact (IntWalk.i64_in _ (by omega)).trans (by omega))) ?_
  simp only [Act.put, sA9, sB9, sC9]
  refine Step.p_val rfl (.slice (some ⟨g, off + 4 * nk, none⟩) (4 * nk) (cap - 4 * nk)) (by unfold execOp; have := HN.out; go_simp; rw [if_pos ⟨by omega, by omega⟩, show (4 * (nk : Int)).toNat = 4 * nk by omega, if_neg (by omega), show n - 4 * nk = 4 * nk by omega]) ?_
  simp only [Act.put, sA9, sB9, sC9]
  have SD2 := Lib.hid (SD.out w4 (fun i hi => by obtain ⟨g0, o0, e, hc⟩ := HB.out (4 * nk + i) (by have := HN.out; omega); cases e; exact ⟨g, off + 4 * nk, rfl, by rw [Nat.add_assoc]; exact (L2.out.bel.cell (p := ⟨g, off + (4 * nk + i), none⟩) (Frame.block_lt hc)).trans hc⟩))
  clear SD
  refine Step.p_wp rfl (Step.w_callx 45 [.tmp 52] _ rfl Tryz.func45 (by kernel_rfl) rfl [.slice (some ⟨g, off + 4 * nk, none⟩) (4 * nk) (cap - 4 * nk)] rfl (SD2.out) ?_)
  rintro e w5a ⟨kb2, rfl, hb⟩
  refine ⟨_, rfl, ?_⟩
  simp only [Act.put, sA9, sB9, sC9]
  have L3a := Lib.hid (L2.out.next hb)
  clear hb L2
  obtain ⟨C1, hC1, hs1⟩ := L3a.out.ci
  have HC1 := Lib.hid hC1
  clear hC1
  refine Step.p_val rfl (.pointer (some ⟨rb + 1, 0, none⟩)) (by unfold execOp; go_simp; try rfl) ?_
  simp only [Act.put, sA9, sB9, sC9]
  refine Tree.p_field rfl _ _ _ rfl (rb + 1) (0) rfl Tryz.underlying99 rfl (sz := 1) (by kernel_rfl) (by decide) (7) rfl ?_
  simp only [Act.put, sA9, sB9, sC9]
  refine Step.p_storeV rfl 97 _ _ rfl (rb + 1) 7 rfl (.pointer (some ⟨kb2, 0, none⟩)) rfl (fun _ e => by cases e) rfl (by kernel_rfl) HC1.out (by omega) ?_
  intro w5 hr hg _
  simp only [Act.put]
  refine wpList_nil ?_
  have L3 := Lib.hid (L3a.out.put _ hr (by simpa using hs1) hg)
  clear hr hg HC1 hs1 L3a
  go_upto_region 23 with fail
  refine wp_region_lit ?_
  refine Tree.p_field rfl _ _ _ rfl (rb) (0) rfl Tryz.underlying45 rfl (sz := 1) (by kernel_rfl) (by decide) (2) rfl ?_
  simp only [Act.put, sA9, sB9, sC9]
  refine Tree.p_load1 rfl _ _ rfl (rb) (2) rfl (.string ⟨#[112, 108, 97, 105, 110, 54, 52, 98, 101]⟩) ((cell_of_row _ _ _ _ _ _ L3.out.row).trans rfl) Tryz.underlying9 rfl ?_
  simp only [Act.put, sA9, sB9, sC9]
  refine Step.p_val rfl (.bool false) (by unfold execOp; go_simp; try rfl) ?_
  simp only [Act.put, sA9, sB9, sC9]
  refine wpList_nil ?_
  go_wp2
  go_ret2
  exact ⟨rb + 1, rfl, L3.out.bel⟩
set_option maxRecDepth 100000 in
set_option maxHeartbeats 4000000 in
theorem newK13_any (i0 : Nat) (hi : i0 < 3) (g off cap : Nat) (F : Nat → Nat) (hF : ∀ j, F j < 256) (w : World) (hB : BL w (some ⟨g, off, none⟩) (8 * (4 + 2 * i0)) F) (hcap : (8 * (4 + 2 * i0)) ≤ cap) (hcm : cap ≤ 9223372036854775807) (hM : Modes w) (hG : RgW w) :
    Calls Tryz.prog 24 #[.string (name (1 + 17 * i0 + 13)), .slice (some ⟨g, off, none⟩) (8 * (4 + 2 * i0)) cap] w fun e w' => ∃ rb, e = .returned (.tuple #[.pointer (some ⟨rb, 0, none⟩), .int .i64 0]) ∧ Below w.heap.size w w' := by
  have FI := Lib.hid (find_any (1 + 17 * i0 + 13) (by omega) w hM)
  have RA : rowL (1 + 17 * i0 + 13) = [.string (pre i0 ++ nm 13), .string ⟨#[120, 116, 115]⟩, .string ⟨#[101, 115, 115, 105, 118]⟩, .int .i64 (16 + 8 * (i0 : Int)), .int .i64 (((8 * (4 + 2 * i0)) : Nat) : Int)] := by
    rw [rowL_at i0 13 (by decide)]
    have e : szT i0 13 = (((8 * (4 + 2 * i0)) : Nat) : Int) := by
      unfold szT
      rw [if_pos (by decide)]
      simp []
      try omega
    rw [e]
    rfl
  rw [RA] at FI
  have SC := Lib.hid (fun w' h => schedule_any g off (4 + 2 * i0) cap (by omega) F hF (by omega) hcm w' h)
  have SD := Lib.hid (fun w' h => schedule_any g (off + 4 * (4 + 2 * i0)) (4 + 2 * i0) (cap - 4 * (4 + 2 * i0)) (by omega) (fun i => F (4 * (4 + 2 * i0) + i)) (fun _ => hF _) (by omega) (by omega) w' h)
  have CO := Lib.hid (fun w' (b : Below w.heap.size w w') => copied_any g off (8 * (4 + 2 * i0)) cap F w' (by omega) (by omega) (hB.below b))
  have RG := Lib.hid (fun w' (b : Below w.heap.size w w') => hG.below b)
  have HB := Lib.hid hB
  clear hB RA hM hG
  have hnk : 4 ≤ 4 + 2 * i0 ∧ 4 + 2 * i0 ≤ 8 := by omega
  generalize 4 + 2 * i0 = nk at *
  generalize hn : 8 * nk = n at *
  have HN := Lib.hid hn
  clear hn
  generalize pre i0 ++ nm 13 = spec at *
  generalize name (1 + 17 * i0 + 13) = spec2 at *
  have hnl : 16 ≤ n ∧ n ≤ 64 := by have := HN.out; omega
  go_enter Tryz.func24, Tryz.ntmps24
  go_upto_region 14 with (go_at_call 18; refine FI.out.mono ?_; rintro e w1 ⟨rfl, hb⟩)
  have L0 : Hid (LW w1.heap.size #[.string spec, .string ⟨#[120, 116, 115]⟩, .string ⟨#[101, 115, 115, 105, 118]⟩, .int .i64 (16 + 8 * (i0 : Int)), .int .i64 (n : Nat)] w ((w1.alloc (.cells #[.string spec, .string ⟨#[120, 116, 115]⟩, .string ⟨#[101, 115, 115, 105, 118]⟩, .int .i64 (16 + 8 * (i0 : Int)), .int .i64 (n : Nat)] 45)).alloc (.cells #[.string spec, .string ⟨#[120, 116, 115]⟩, .string ⟨#[101, 115, 115, 105, 118]⟩, .int .i64 (16 + 8 * (i0 : Int)), .int .i64 (n : Nat), .int .i64 (n : Nat), .pointer none, .pointer none, .pointer none, .int .u8 0, .int .u8 0, .int .u8 0, .int .u8 0, .int .u8 0, .int .u8 0, .int .u8 0, .int .u8 0, .int .u8 0, .int .u8 0, .int .u8 0, .int .u8 0, .int .u8 0, .int .u8 0, .int .u8 0, .int .u8 0, .int .u8 0, .int .u8 0, .int .u8 0, .int .u8 0, .int .u8 0, .int .u8 0, .int .u8 0, .int .u8 0, .int .u8 0, .int .u8 0, .int .u8 0, .int .u8 0, .int .u8 0, .int .u8 0, .int .u8 0, .int .u8 0, .bool false] 99))) := Lib.hid ⟨(heap_alloc_old _ _ (by rw [World.size_alloc]; exact Nat.lt_succ_self _)).trans (heap_alloc_new w1 _), ⟨#[.string spec, .string ⟨#[120, 116, 115]⟩, .string ⟨#[101, 115, 115, 105, 118]⟩, .int .i64 (16 + 8 * (i0 : Int)), .int .i64 (n : Nat), .int .i64 (n : Nat), .pointer none, .pointer none, .pointer none, .int .u8 0, .int .u8 0, .int .u8 0, .int .u8 0, .int .u8 0, .int .u8 0, .int .u8 0, .int .u8 0, .int .u8 0, .int .u8 0, .int .u8 0, .int .u8 0, .int .u8 0, .int .u8 0, .int .u8 0, .int .u8 0, .int .u8 0, .int .u8 0, .int .u8 0, .int .u8 0, .int .u8 0, .int .u8 0, .int .u8 0, .int .u8 0, .int .u8 0, .int .u8 0, .int .u8 0, .int .u8 0, .int .u8 0, .int .u8 0, .int .u8 0, .int .u8 0, .bool false], (by have h := heap_alloc_new (w1.alloc (.cells #[.string spec, .string ⟨#[120, 116, 115]⟩, .string ⟨#[101, 115, 115, 105, 118]⟩, .int .i64 (16 + 8 * (i0 : Int)), .int .i64 (n : Nat)] 45)) (.cells #[.string spec, .string ⟨#[120, 116, 115]⟩, .string ⟨#[101, 115, 115, 105, 118]⟩, .int .i64 (16 + 8 * (i0 : Int)), .int .i64 (n : Nat), .int .i64 (n : Nat), .pointer none, .pointer none, .pointer none, .int .u8 0, .int .u8 0, .int .u8 0, .int .u8 0, .int .u8 0, .int .u8 0, .int .u8 0, .int .u8 0, .int .u8 0, .int .u8 0, .int .u8 0, .int .u8 0, .int .u8 0, .int .u8 0, .int .u8 0, .int .u8 0, .int .u8 0, .int .u8 0, .int .u8 0, .int .u8 0, .int .u8 0, .int .u8 0, .int .u8 0, .int .u8 0, .int .u8 0, .int .u8 0, .int .u8 0, .int .u8 0, .int .u8 0, .int .u8 0, .int .u8 0, .int .u8 0, .bool false] 99); rw [World.size_alloc] at h; exact h), rfl⟩, (hb.alloc hb.size _).alloc (by rw [World.size_alloc]; exact Nat.le_succ_of_le hb.size) _, hb.size⟩
  clear hb
  generalize ((w1.alloc (.cells #[.string spec, .string ⟨#[120, 116, 115]⟩, .string ⟨#[101, 115, 115, 105, 118]⟩, .int .i64 (16 + 8 * (i0 : Int)), .int .i64 (n : Nat)] 45)).alloc (.cells #[.string spec, .string ⟨#[120, 116, 115]⟩, .string ⟨#[101, 115, 115, 105, 118]⟩, .int .i64 (16 + 8 * (i0 : Int)), .int .i64 (n : Nat), .int .i64 (n : Nat), .pointer none, .pointer none, .pointer none, .int .u8 0, .int .u8 0, .int .u8 0, .int .u8 0, .int .u8 0, .int .u8 0, .int .u8 0, .int .u8 0, .int .u8 0, .int .u8 0, .int .u8 0, .int .u8 0, .int .u8 0, .int .u8 0, .int .u8 0, .int .u8 0, .int .u8 0, .int .u8 0, .int .u8 0, .int .u8 0, .int .u8 0, .int .u8 0, .int .u8 0, .int .u8 0, .int .u8 0, .int .u8 0, .int .u8 0, .int .u8 0, .int .u8 0, .int .u8 0, .int .u8 0, .int .u8 0, .bool false] 99)) = w2 at *
  obtain ⟨rb, hrb⟩ : ∃ rb, rb = w1.heap.size := ⟨_, rfl⟩
  rw [← hrb] at L0 ⊢
  clear hrb
  go_upto_region 14 with fail
  refine wp_region_lit ?_
  refine Step.p_move rfl _ rfl (.pointer (some ⟨rb + 1, 0, none⟩)) rfl ?_
  simp only [Act.put, sA9, sB9, sC9]
  refine Step.p_move rfl _ rfl (.slice (some ⟨g, off, none⟩) n cap) rfl ?_
  simp only [Act.put, sA9, sB9, sC9]
  refine Step.p_move rfl _ rfl (.int .i64 n) rfl ?_
  simp only [Act.put, sA9, sB9, sC9]
  refine Step.p_val rfl (.int .i64 (4 * nk : Nat)) (by unfold execOp; have := HN.out; have h2 : (n : Int).tdiv 2 = 4 * (nk : Int) := (by rw [Int.tdiv_eq_ediv_of_nonneg (by omega)]; omega); go_simp; try (first | omega | (rw [h2]; exact (IntWalk.i64_in _ (by omega)).trans (by omega)) | exact (IntWalk.i64_in _ (by omega)).trans (by omega))) ?_
  simp only [Act.put, sA9, sB9, sC9]
  refine Step.p_val rfl (.slice (some ⟨g, off, none⟩) (4 * nk) cap) (by unfold execOp; have := HN.out; go_simp; rw [if_pos ⟨by omega, by omega⟩, show (4 * (nk : Int)).toNat = 4 * nk by omega]) ?_
  simp only [Act.put, sA9, sB9, sC9]
  have SC2 := Lib.hid (SC.out w2 (fun i hi => by obtain ⟨g0, o0, e, hc⟩ := HB.out i (by have := HN.out; omega); exact ⟨g0, o0, e, (L0.out.bel.cell (Frame.block_lt hc)).trans hc⟩))
  clear SC
  refine Step.p_wp rfl (Step.w_callx 45 [.tmp 44] _ rfl Tryz.func45 (by kernel_rfl) rfl [.slice (some ⟨g, off, none⟩) (4 * nk) cap] rfl (SC2.out) ?_)
  rintro e w4a ⟨kb, rfl, hb⟩
  refine ⟨_, rfl, ?_⟩
  simp only [Act.put, sA9, sB9, sC9]
  have L2a := Lib.hid (L0.out.next hb)
  clear hb L0
  obtain ⟨C1, hC1, hs1⟩ := L2a.out.ci
  have HC1 := Lib.hid hC1
  clear hC1
  refine Step.p_val rfl (.pointer (some ⟨rb + 1, 0, none⟩)) (by unfold execOp; go_simp; try rfl) ?_
  simp only [Act.put, sA9, sB9, sC9]
  refine Tree.p_field rfl _ _ _ rfl (rb + 1) (0) rfl Tryz.underlying99 rfl (sz := 1) (by kernel_rfl) (by decide) (6) rfl ?_
  simp only [Act.put, sA9, sB9, sC9]
  refine Step.p_storeV rfl 97 _ _ rfl (rb + 1) 6 rfl (.pointer (some ⟨kb, 0, none⟩)) rfl (fun _ e => by cases e) rfl (by kernel_rfl) HC1.out (by omega) ?_
  intro w4 hr hg _
  simp only [Act.put]
  refine wpList_nil ?_
  have L2 := Lib.hid (L2a.out.put _ hr (by simpa using hs1) hg)
  clear hr hg HC1 hs1 L2a
  go_upto_region 15 with fail
  refine wp_region_lit ?_
  refine Step.p_move rfl _ rfl (.pointer (some ⟨rb + 1, 0, none⟩)) rfl ?_
  simp only [Act.put, sA9, sB9, sC9]
  refine Step.p_move rfl _ rfl (.slice (some ⟨g, off, none⟩) n cap) rfl ?_
  simp only [Act.put, sA9, sB9, sC9]
  refine Step.p_move rfl _ rfl (.int .i64 n) rfl ?_
  simp only [Act.put, sA9, sB9, sC9]
  refine Step.p_val rfl (.int .i64 (4 * nk : Nat)) (by unfold execOp; have := HN.out; have h2 : (n : Int).tdiv 2 = 4 * (nk : Int) := (by rw [Int.tdiv_eq_ediv_of_nonneg (by omega)]; omega); go_simp; try (first | omega | (rw [h2]; exact (IntWalk.i64_in _ (by omega)).trans (by omega)) | exact (IntWalk.i64_in _ (by omega)).trans (by omega))) ?_
  simp only [Act.put, sA9, sB9, sC9]
  refine Step.p_val rfl (.slice (some ⟨g, off + 4 * nk, none⟩) (4 * nk) (cap - 4 * nk)) (by unfold execOp; have := HN.out; go_simp; rw [if_pos ⟨by omega, by omega⟩, show (4 * (nk : Int)).toNat = 4 * nk by omega, if_neg (by omega), show n - 4 * nk = 4 * nk by omega]) ?_
  simp only [Act.put, sA9, sB9, sC9]
  have SD2 := Lib.hid (SD.out w4 (fun i hi => by obtain ⟨g0, o0, e, hc⟩ := HB.out (4 * nk + i) (by have := HN.out; omega); cases e; exact ⟨g, off + 4 * nk, rfl, by rw [Nat.add_assoc]; exact (L2.out.bel.cell (p := ⟨g, off + (4 * nk + i), none⟩) (Frame.block_lt hc)).trans hc⟩))
  clear SD
  refine Step.p_wp rfl (Step.w_callx 45 [.tmp 52] _ rfl Tryz.func45 (by kernel_rfl) rfl [.slice (some ⟨g, off + 4 * nk, none⟩) (4 * nk) (cap - 4 * nk)] rfl (SD2.out) ?_)
  rintro e w5a ⟨kb2, rfl, hb⟩
  refine ⟨_, rfl, ?_⟩
  simp only [Act.put, sA9, sB9, sC9]
  have L3a := Lib.hid (L2.out.next hb)
  clear hb L2
  obtain ⟨C1, hC1, hs1⟩ := L3a.out.ci
  have HC1 := Lib.hid hC1
  clear hC1
  refine Step.p_val rfl (.pointer (some ⟨rb + 1, 0, none⟩)) (by unfold execOp; go_simp; try rfl) ?_
  simp only [Act.put, sA9, sB9, sC9]
  refine Tree.p_field rfl _ _ _ rfl (rb + 1) (0) rfl Tryz.underlying99 rfl (sz := 1) (by kernel_rfl) (by decide) (7) rfl ?_
  simp only [Act.put, sA9, sB9, sC9]
  refine Step.p_storeV rfl 97 _ _ rfl (rb + 1) 7 rfl (.pointer (some ⟨kb2, 0, none⟩)) rfl (fun _ e => by cases e) rfl (by kernel_rfl) HC1.out (by omega) ?_
  intro w5 hr hg _
  simp only [Act.put]
  refine wpList_nil ?_
  have L3 := Lib.hid (L3a.out.put _ hr (by simpa using hs1) hg)
  clear hr hg HC1 hs1 L3a
  go_upto_region 23 with fail
  refine wp_region_lit ?_
  refine Tree.p_field rfl _ _ _ rfl (rb) (0) rfl Tryz.underlying45 rfl (sz := 1) (by kernel_rfl) (by decide) (2) rfl ?_
  simp only [Act.put, sA9, sB9, sC9]
  refine Tree.p_load1 rfl _ _ rfl (rb) (2) rfl (.string ⟨#[101, 115, 115, 105, 118]⟩) ((cell_of_row _ _ _ _ _ _ L3.out.row).trans rfl) Tryz.underlying9 rfl ?_
  simp only [Act.put, sA9, sB9, sC9]
  refine Step.p_val rfl (.bool true) (by unfold execOp; go_simp; try rfl) ?_
  simp only [Act.put, sA9, sB9, sC9]
  refine wpList_nil ?_
  go_upto_region 24 with fail
  refine wp_region_lit ?_
  refine Step.p_move rfl _ rfl (.pointer (some ⟨rb + 1, 0, none⟩)) rfl ?_
  simp only [Act.put, sA9, sB9, sC9]
  refine Step.p_move rfl _ rfl (.slice (some ⟨g, off, none⟩) n cap) rfl ?_
  simp only [Act.put, sA9, sB9, sC9]
  refine Step.p_wp rfl (Step.w_callx 48 _ _ rfl Tryz.func48 (by kernel_rfl) rfl [.slice (some ⟨g, off, none⟩) n cap] rfl (CO.out w5 L3.out.bel) ?_)
  rintro e wc ⟨u, rfl, ho, hb⟩
  refine ⟨_, rfl, ?_⟩
  simp only [Act.put, sA9, sB9, sC9]
  obtain ⟨gc, cc, rfl, _, h2, h3, h4⟩ := ho
  have Lc := Lib.hid (L3.out.next hb)
  have KC := Lib.hid (Rf1.sum_any gc 0 n cc F hF (by omega) (by omega) wc (fun j hj => by rw [Nat.zero_add]; exact h4 j hj) (RG.out wc Lc.out.bel).sq (RG.out wc Lc.out.bel).cu)
  clear h4 hb L3
  refine Step.p_wp rfl (Step.w_callx 47 _ _ rfl Tryz.func47 (by kernel_rfl) rfl [.int .i64 256, .slice (some ⟨gc, 0, none⟩) n cc] rfl KC.out ?_)
  rintro e wd ⟨⟨u, rfl, hu⟩, hb⟩
  refine ⟨_, rfl, ?_⟩
  simp only [Act.put, sA9, sB9, sC9]
  obtain ⟨gs, cs, G, rfl, hGb, k1, k2, k3⟩ := sumBL hu
  have Ld := Lib.hid (Lc.out.next hb)
  have SE := Lib.hid (schedule_any gs 0 8 cs (by omega) G hGb (by omega) k2 wd k3)
  clear hu hb k3 Lc
  refine Step.p_wp rfl (Step.w_callx 45 [.tmp 103] _ rfl Tryz.func45 (by kernel_rfl) rfl [.slice (some ⟨gs, 0, none⟩) 32 cs] rfl (SE.out) ?_)
  rintro e w9a ⟨kb3, rfl, hb⟩
  refine ⟨_, rfl, ?_⟩
  simp only [Act.put, sA9, sB9, sC9]
  have L9a := Lib.hid (Ld.out.next hb)
  clear hb Ld
  obtain ⟨C1, hC1, hs1⟩ := L9a.out.ci
  have HC1 := Lib.hid hC1
  clear hC1
  refine Step.p_val rfl (.pointer (some ⟨rb + 1, 0, none⟩)) (by unfold execOp; go_simp; try rfl) ?_
  simp only [Act.put, sA9, sB9, sC9]
  refine Tree.p_field rfl _ _ _ rfl (rb + 1) (0) rfl Tryz.underlying99 rfl (sz := 1) (by kernel_rfl) (by decide) (8) rfl ?_
  simp only [Act.put, sA9, sB9, sC9]
  refine Step.p_storeV rfl 97 _ _ rfl (rb + 1) 8 rfl (.pointer (some ⟨kb3, 0, none⟩)) rfl (fun _ e => by cases e) rfl (by kernel_rfl) HC1.out (by omega) ?_
  intro w9 hr hg _
  simp only [Act.put]
  refine wpList_nil ?_
  have L9 := Lib.hid (L9a.out.put _ hr (by simpa using hs1) hg)
  clear hr hg HC1 hs1 L9a
  go_wp2
  go_ret2
  exact ⟨rb + 1, rfl, L9.out.bel⟩
end Go.Proofs.YtmifebcaifbmoaaGreatDoor.Ref3
end
