/- Parts of the proof of TweakBlocks. Rj8: rijndael: all rounds. -/
import Derived.Test.YtmifebcaifbmoaaGreatDoorL00
import Derived.Test.YtmifebcaifbmoaaGreatDoorL04
/- Rj8 -/
section
namespace Go.Proofs.YtmifebcaifbmoaaGreatDoor.Rj
open Go.RowKit Go.Lib Go.Proofs.YtmifebcaifbmoaaGreatDoor.Blk Go.Proofs.YtmifebcaifbmoaaGreatDoor.Aes Go.Proofs.YtmifebcaifbmoaaGreatDoor.Seg

structure ThW (B : Nat) (w wr : World) (f : Nat → Int) : Prop where
  s : Arr wr B .u32 4 195 f
  z : Arr wr (B + 1) .u32 4 195 (fun _ => 0)
  bel : Below B w wr
theorem info4 : (Tryz.prog.info? 195).map (·.size) = some 4 := by kernel_rfl
theorem bel_arr {_B b : Nat} {w w' : World} {k : IntKind} {n : Nat} {t : TypeId} {f : Nat → Int} (h : Arr w b k n t f) (hb : Below w.heap.size w w') : Arr w' b k n t f := h.below hb h.lt
/-- what is read while the rounds go on -/
structure ThR (box m : Nat → Nat) (k : Nat → Nat → Nat) (nr wb wo tb tq lb lo : Nat) (w : World) : Prop where
  ws : ∀ r c, r ≤ nr → c < 4 → w.cell? ⟨wb, wo + (4 * r + c), none⟩ = some (.int .u32 (colW (k r) c : Nat))
  t : ∀ x, x < 1024 → w.cell? ⟨tb, tq + x, none⟩ = some (.int .u32 (tabW box m x : Nat))
  l : ∀ x, x < 256 → w.cell? ⟨lb, lo + x, none⟩ = some (.int .u8 (box x : Nat))
theorem ThR.below {box m : Nat → Nat} {k : Nat → Nat → Nat} {nr wb wo tb tq lb lo : Nat} {w w' : World} (h : ThR box m k nr wb wo tb tq lb lo w) (hb : Below w.heap.size w w') : ThR box m k nr wb wo tb tq lb lo w' :=
  ⟨fun r c hr hc => (hb.cell (p := ⟨wb, wo + (4 * r + c), none⟩) (Frame.block_lt (h.ws r c hr hc))).trans (h.ws r c hr hc), fun x hx => (hb.cell (p := ⟨tb, tq + x, none⟩) (Frame.block_lt (h.t x hx))).trans (h.t x hx), fun x hx => (hb.cell (p := ⟨lb, lo + x, none⟩) (Frame.block_lt (h.l x hx))).trans (h.l x hx)⟩

theorem xor32 {a b : Nat} (ha : a < 4294967296) (hb : b < 4294967296) : a ^^^ b < 4294967296 := Nat.xor_lt_two_pow (n := 32) ha hb
set_option maxRecDepth 100000 in
set_option maxHeartbeats 16000000 in
theorem through_any (box m : Nat → Nat) (hb : Byt box 256) (step : Nat) (hst : step = 1 ∨ step = 3) (k : Nat → Nat → Nat) (nr : Nat) (h1 : 1 ≤ nr) (h14 : nr ≤ 14) (hk : ∀ r, r ≤ nr → Byt (k r) 16) (st : Nat → Nat) (hs : Byt st 16) (wb wo cap tb tq lb lo : Nat) (w : World) (hR : ThR box m k nr wb wo tb tq lb lo w) :
    Calls Tryz.prog 150 #[.agg (arr .u32 4 fun c => (colW st c : Nat)), .slice (some ⟨wb, wo, none⟩) (4 * nr + 4) cap, .pointer (some ⟨tb, tq, none⟩), .pointer (some ⟨lb, lo, none⟩), .int .i64 step] w
      fun e w' => e = .returned (.agg (arr .u32 4 fun c => (colW (thrB m box step k nr st) c : Nat))) ∧ Below w.heap.size w w' := by
  have z4 : (Tryz.prog.info? 195).bind (·.zero) = some (.agg (arr .u32 4 fun _ => 0)) := by kernel_rfl
  have HR := Lib.hid hR
  have HB := Lib.hid hb
  have HK := Lib.hid hk
  have HS := Lib.hid hs
  have hsp : 1 ≤ step ∧ step ≤ 3 := by omega
  have J2 := Lib.hid (fun c : Nat => (by rcases hst with rfl | rfl <;> omega : (c + 2 * step) % 4 = (c + 2) % 4))
  obtain ⟨n, hn1, hn2⟩ : ∃ n, n ≤ 4 * nr + 4 ∧ 4 * nr + 4 ≤ n := ⟨4 * nr + 4, Nat.le_refl _, Nat.le_refl _⟩
  rw [show 4 * nr + 4 = n by omega]
  clear hR hb hk hs hst
  obtain ⟨hsp1, hsp2⟩ := hsp
  go_enter Tryz.func150, Tryz.ntmps150
  go_upto_region 0 with fail
  refine wp_region_lit ?_
  refine New.p_box rfl 195 _ rfl .u32 4 (fun c => ((colW st c : Nat) : Int)) rfl ?_
  intro w1 a1 g1 s1
  simp only [Act.put, sA9, sB9, sC9]
  refine New.p_newarr rfl 195 rfl .u32 4 z4 ?_
  intro w2 a2 g2 s2
  refine wpList_nil ?_
  simp only [Act.put, sA9, sB9, sC9]
  rw [s1]
  have W2 : Hid (ThW w.heap.size w w2 fun c => (colW st c : Nat)) := Lib.hid ⟨bel_arr (_B := 0) a1 (bel_of_gb (_B := 0) g2), by rw [s1] at a2; exact a2, ((Below.refl w.heap.size w).grown g1 (Nat.le_refl _) (by simp)).grown g2 (by omega) (by simp)⟩
  clear a1 g1 s1 a2 g2 s2
  go_wp2
  go_loopw [18, 11] (fun p _ wr => ∃ (i : Nat) (f : Nat → Int), i ≤ 4 ∧ p = .int .i64 i ∧ ThW w.heap.size w wr f ∧ ∀ c, c < 4 → f c = ((if c < i then colW (stR m box step k st 0) c else colW st c : Nat) : Int)) (fun p _ _ => 4 - (RowKit.intOf p).toNat)
  case atStart => exact ⟨0, _, by decide, rfl, W2.out, fun c _ => by rw [if_neg (by omega)]⟩
  case round =>
  obtain ⟨i, f, hi, rfl, hw, hf⟩ := hrel
  have HW := Lib.hid hw
  have HF := Lib.hid hf
  by_cases hlt : i < 4
  · have hcell := hw.s.cell hlt
    rw [hf i hlt, if_neg (by omega)] at hcell
    have hfr := hw.s.free i
    have hwc := (HR.out.below (hw.bel)).ws 0 i (by omega) hlt
    rw [Nat.mul_zero, Nat.zero_add] at hwc
    have XW : Hid (bits .xor .u32 (colW st i : Nat) (colW (k 0) i : Nat) = (colW (stR m box step k st 0) i : Nat)) := Lib.hid (by
      rw [xor_u32 _ _ (colW_lt HS.out hlt) (colW_lt (HK.out 0 (by omega)) hlt), colW, colW, wd_xor (colW_byt HS.out hlt) (colW_byt (HK.out 0 (by omega)) hlt)]
      rfl)
    clear hw hf
    go_upto_region 4 with fail
    go_region
    go_wp2
    go_roundw
    case rel =>
      refine ⟨i + 1, _, by omega, by go_num, ⟨HW.out.s.store i _, HW.out.z.other (by simp) _, (HW.out.bel.setCell (by simp) _).drew⟩, fun c hc => ?_⟩
      unfold upd
      rw [XW.out]
      by_cases e : c = i
      · subst e
        rw [if_pos rfl, if_pos (by omega)]
      · rw [if_neg e, HF.out c hc]
        by_cases e2 : c < i
        · rw [if_pos e2, if_pos (by omega)]
        · rw [if_neg e2, if_neg (by omega)]
    case measure => simp [RowKit.intOf]; omega
  · obtain rfl : i = 4 := by omega
    obtain ⟨W0, rfl⟩ : ∃ W, W = wr := ⟨_, rfl⟩
    have HS0 : Hid (ThW w.heap.size w W0 fun c => (colW (stR m box step k st 0) c : Nat)) := Lib.hid ⟨hw.s.congr fun c hc => by rw [hf c hc, if_pos hc], hw.z, hw.bel⟩
    clear hw hf HW HF
    go_wp2
    go_loopw [13, 14, 15, 39] (fun p _ _ _ wr => ∃ q : Nat, q < nr ∧ p = .int .i64 (4 * (q + 1) : Nat) ∧ ThW w.heap.size w wr fun c => (colW (stR m box step k st q) c : Nat)) (fun p _ _ _ _ => n - (RowKit.intOf p).toNat)
    case atStart => exact ⟨0, by omega, rfl, HS0.out⟩
    case round =>
    obtain ⟨q, hq, rfl, hw⟩ := hrel
    have HW := Lib.hid hw
    clear hw HS0
    by_cases hlt : q + 1 < nr
    · go_upto_region 10 with fail
      refine wp_region_lit ?_
      refine New.p_newarr rfl 195 rfl .u32 4 z4 ?_
      intro w3 a3 g3 s3
      refine wpList_nil ?_
      simp only [Act.put, sA9, sB9, sC9]
      have hb3 := bel_of_gb (_B := 0) g3
      have hnb : w.heap.size + 1 < wr.heap.size := HW.out.z.lt
      generalize wr.heap.size = nb at *
      have HW3 : Hid (ThW w.heap.size w w3 fun c => (colW (stR m box step k st q) c : Nat)) := Lib.hid ⟨HW.out.s.below hb3 (by omega), HW.out.z.below hb3 (by omega), HW.out.bel.trans (hb3.mono (by omega))⟩
      have HA3 := Lib.hid a3
      clear a3 g3 s3 hb3 HW
      have hsb : Byt (stR m box step k st q) 16 := stR_byt HB.out HS.out HK.out q (by omega)
      have HSB := Lib.hid hsb
      have RW := Lib.hid (fun c hc => round_word (m := m) HB.out hsb (HK.out (q + 1) (by omega)) step c hc)
      have hst2 : stR m box step k st (q + 1) = fun i => colsB m (rowB box step (stR m box step k st q)) i ^^^ k (q + 1) i := rfl
      rw [← hst2] at RW
      clear hsb hst2
      generalize hS2 : stR m box step k st (q + 1) = s2 at *
      generalize hS1 : stR m box step k st q = s at *
      have HS2 := Lib.hid hS2
      have HS1 := Lib.hid hS1
      clear hS1 hS2
      go_wp2
      go_loopw [15, 39] (fun _ p w5 => ∃ (c : Nat) (g : Nat → Int), c ≤ 4 ∧ p = .int .i64 c ∧ (ThW w.heap.size w w5 fun c => (colW s c : Nat)) ∧ Arr w5 nb .u32 4 195 g ∧ ∀ c', c' < c → g c' = (colW s2 c' : Nat)) (fun _ p _ => 4 - (RowKit.intOf p).toNat)
      case atStart => exact ⟨0, _, by decide, rfl, HW3.out, HA3.out, fun _ h => by omega⟩
      case round =>
      obtain ⟨c, g, hc, rfl, hw, ha, hg⟩ := hrel
      have HW5 := Lib.hid hw
      have HA5 := Lib.hid ha
      have HG5 := Lib.hid hg
      clear hw ha hg HW3 HA3
      by_cases hc4 : c < 4
      · skip
        have R5 := Lib.hid (HR.out.below HW5.out.bel)
        have HC : Hid (∀ j, j < 4 → World.cell? wr ⟨w.heap.size, j, none⟩ = some (.int .u32 (colW s j : Nat))) := Lib.hid (fun j hj => HW5.out.s.cell hj)
        obtain ⟨j1, hj1⟩ : ∃ j, (c + step) % 4 = j := ⟨_, rfl⟩
        obtain ⟨j2, hj2⟩ : ∃ j, (c + 2) % 4 = j := ⟨_, rfl⟩
        obtain ⟨j3, hj3⟩ : ∃ j, (c + 3 * step) % 4 = j := ⟨_, rfl⟩
        have l1 : j1 < 4 := by omega
        have l2 : j2 < 4 := by omega
        have l3 : j3 < 4 := by omega
        have xb0 := HSB.out (4 * c + 0) (by omega)
        have cl0 : colW s c < 4294967296 := colW_lt HSB.out (by omega)
        have xb1 := HSB.out (4 * j1 + 1) (by omega)
        have cl1 : colW s j1 < 4294967296 := colW_lt HSB.out (by omega)
        have xb2 := HSB.out (4 * j2 + 2) (by omega)
        have cl2 : colW s j2 < 4294967296 := colW_lt HSB.out (by omega)
        have xb3 := HSB.out (4 * j3 + 3) (by omega)
        have cl3 : colW s j3 < 4294967296 := colW_lt HSB.out (by omega)
        have D0 : Hid (((colW s c : Nat) : Int) / 16777216 = (s (4 * c + 0) : Nat)) := Lib.hid (by rw [← wd_0 (colW_byt HSB.out hc4)]; simp [colW])
        have D1 : Hid (bits .and .u32 ((colW s j1 / 65536 : Nat) : Int) 255 = (s (4 * j1 + 1) : Nat)) := Lib.hid (by rw [and255 _ (by omega)]; exact congrArg Nat.cast (wd_1 (colW_byt HSB.out l1)))
        have D2 : Hid (bits .and .u32 ((colW s j2 / 256 : Nat) : Int) 255 = (s (4 * j2 + 2) : Nat)) := Lib.hid (by rw [and255 _ (by omega)]; exact congrArg Nat.cast (wd_2 (colW_byt HSB.out l2)))
        have D3 : Hid (bits .and .u32 ((colW s j3 : Nat) : Int) 255 = (s (4 * j3 + 3) : Nat)) := Lib.hid (by rw [and255 _ (by omega)]; exact congrArg Nat.cast (wd_3 (colW_byt HSB.out l3)))
        have Hj1 := Lib.hid hj1
        have Hj2 := Lib.hid hj2
        have Hj3 := Lib.hid hj3
        clear hj1 hj2 hj3
        have t0 : tabW box m (0 * 256 + s (4 * c + 0)) < 4294967296 := tab_lt HB.out _
        have t1 : tabW box m (1 * 256 + s (4 * j1 + 1)) < 4294967296 := tab_lt HB.out _
        have t2 : tabW box m (2 * 256 + s (4 * j2 + 2)) < 4294967296 := tab_lt HB.out _
        have t3 : tabW box m (3 * 256 + s (4 * j3 + 3)) < 4294967296 := tab_lt HB.out _
        have RWC : Hid (((tabW box m (0 * 256 + s (4 * c + 0)) ^^^ tabW box m (1 * 256 + s (4 * j1 + 1)) ^^^ tabW box m (2 * 256 + s (4 * j2 + 2)) ^^^ tabW box m (3 * 256 + s (4 * j3 + 3)) ^^^ colW (k (q + 1)) c : Nat) : Int) = (colW s2 c : Nat)) := Lib.hid (by
          have := RW.out c hc4
          rw [J2.out c, Hj1.out, Hj2.out, Hj3.out] at this
          exact congrArg Nat.cast this)
        have F0 := Lib.hid (R5.out.t (0 * 256 + s (4 * c + 0)) (by omega))
        have F1 := Lib.hid (R5.out.t (1 * 256 + s (4 * j1 + 1)) (by omega))
        have F2 := Lib.hid (R5.out.t (2 * 256 + s (4 * j2 + 2)) (by omega))
        have F3 := Lib.hid (R5.out.t (3 * 256 + s (4 * j3 + 3)) (by omega))
        generalize s (4 * c + 0) = x0 at *
        generalize s (4 * j1 + 1) = x1 at *
        generalize s (4 * j2 + 2) = x2 at *
        generalize s (4 * j3 + 3) = x3 at *
        generalize tabW box m (0 * 256 + x0) = T0 at *
        generalize tabW box m (1 * 256 + x1) = T1 at *
        generalize tabW box m (2 * 256 + x2) = T2 at *
        generalize tabW box m (3 * 256 + x3) = T3 at *
        have tk : colW (k (q + 1)) c < 4294967296 := colW_lt (HK.out (q + 1) (by omega)) hc4
        go_upto_region 14 with fail
        refine wp_region_still_tail 59 (by kernel_rfl) (by kernel_rfl) ?_
        refine Still.s_move rfl _ rfl (.int .i64 (c : Nat)) rfl ?_
        simp only [Act.put, sA9, sB9, sC9]
        refine Still.s_move rfl _ rfl (.pointer (some ⟨tb, tq, none⟩)) rfl ?_
        simp only [Act.put, sA9, sB9, sC9]
        refine Still.s_move rfl _ rfl (.int .i64 (c : Nat)) rfl ?_
        simp only [Act.put, sA9, sB9, sC9]
        refine Still.s_idxA rfl _ 132 _ _ rfl (w.heap.size) (0) rfl .i64 (c) rfl hc4 Tryz.underlying195 (size := 1) (by kernel_rfl) (c) (by omega) ?_
        simp only [Act.put, sA9, sB9, sC9]
        refine Still.s_load1 rfl _ _ rfl (w.heap.size) (c) rfl (.int .u32 (colW s c : Nat)) (HC.out c hc4) Tryz.underlying132 rfl ?_
        simp only [Act.put, sA9, sB9, sC9]
        refine Still.s_val rfl (.int .u32 (x0 : Nat)) (by unfold execOp; go_simp; exact D0.out) ?_
        simp only [Act.put, sA9, sB9, sC9]
        refine Still.s_val rfl (.pointer (some ⟨tb, tq, none⟩)) (by unfold execOp; go_simp) ?_
        simp only [Act.put, sA9, sB9, sC9]
        refine Still.s_idxA rfl _ 188 _ _ rfl (tb) (tq) rfl .i64 (0) rfl (by decide) Tryz.underlying189 (size := 256) (by kernel_rfl) (tq + 0 * 256) (rfl) ?_
        simp only [Act.put, sA9, sB9, sC9]
        refine Still.s_idxA rfl _ 132 _ _ rfl (tb) (tq + 0 * 256) rfl .u32 (x0) rfl xb0 Tryz.underlying188 (size := 1) (by kernel_rfl) (tq + (0 * 256 + x0)) (by omega) ?_
        simp only [Act.put, sA9, sB9, sC9]
        refine Still.s_load1 rfl _ _ rfl (tb) (tq + (0 * 256 + x0)) rfl (.int .u32 (T0 : Nat)) (F0.out) Tryz.underlying132 rfl ?_
        simp only [Act.put, sA9, sB9, sC9]
        refine Still.s_move rfl _ rfl (.pointer (some ⟨tb, tq, none⟩)) rfl ?_
        simp only [Act.put, sA9, sB9, sC9]
        refine Still.s_move rfl _ rfl (.int .i64 (c : Nat)) rfl ?_
        simp only [Act.put, sA9, sB9, sC9]
        refine Still.s_move rfl _ rfl (.int .i64 (step : Nat)) rfl ?_
        simp only [Act.put, sA9, sB9, sC9]
        refine Still.s_val rfl (.int .i64 (c + step : Nat)) (by unfold execOp; go_simp; try (first | rfl | omega | exact (IntWalk.i64_in _ (by omega)).trans (by omega))) ?_
        simp only [Act.put, sA9, sB9, sC9]
        refine Still.s_val rfl (.int .i64 (j1 : Nat)) (by unfold execOp; go_simp; rw [← Hj1.out]; try (first | rfl | omega)) ?_
        simp only [Act.put, sA9, sB9, sC9]
        refine Still.s_idxA rfl _ 132 _ _ rfl (w.heap.size) (0) rfl .i64 (j1) rfl l1 Tryz.underlying195 (size := 1) (by kernel_rfl) (j1) (by omega) ?_
        simp only [Act.put, sA9, sB9, sC9]
        refine Still.s_load1 rfl _ _ rfl (w.heap.size) (j1) rfl (.int .u32 (colW s j1 : Nat)) (HC.out j1 l1) Tryz.underlying132 rfl ?_
        simp only [Act.put, sA9, sB9, sC9]
        refine Still.s_val rfl (.int .u32 (colW s j1 / 65536 : Nat)) (by unfold execOp; go_simp; try omega) ?_
        simp only [Act.put, sA9, sB9, sC9]
        refine Still.s_val rfl (.int .u32 (x1 : Nat)) (by unfold execOp; go_simp; exact D1.out) ?_
        simp only [Act.put, sA9, sB9, sC9]
        refine Still.s_val rfl (.pointer (some ⟨tb, tq, none⟩)) (by unfold execOp; go_simp) ?_
        simp only [Act.put, sA9, sB9, sC9]
        refine Still.s_idxA rfl _ 188 _ _ rfl (tb) (tq) rfl .i64 (1) rfl (by decide) Tryz.underlying189 (size := 256) (by kernel_rfl) (tq + 1 * 256) (rfl) ?_
        simp only [Act.put, sA9, sB9, sC9]
        refine Still.s_idxA rfl _ 132 _ _ rfl (tb) (tq + 1 * 256) rfl .u32 (x1) rfl xb1 Tryz.underlying188 (size := 1) (by kernel_rfl) (tq + (1 * 256 + x1)) (by omega) ?_
        simp only [Act.put, sA9, sB9, sC9]
        refine Still.s_load1 rfl _ _ rfl (tb) (tq + (1 * 256 + x1)) rfl (.int .u32 (T1 : Nat)) (F1.out) Tryz.underlying132 rfl ?_
        simp only [Act.put, sA9, sB9, sC9]
        refine Still.s_val rfl (.int .u32 (T0 ^^^ T1 : Nat)) (by unfold execOp; go_simp; exact xor_u32 _ _ (t0) t1) ?_
        simp only [Act.put, sA9, sB9, sC9]
        refine Still.s_move rfl _ rfl (.pointer (some ⟨tb, tq, none⟩)) rfl ?_
        simp only [Act.put, sA9, sB9, sC9]
        refine Still.s_move rfl _ rfl (.int .i64 (c : Nat)) rfl ?_
        simp only [Act.put, sA9, sB9, sC9]
        refine Still.s_val rfl (.int .i64 (c + 2 : Nat)) (by unfold execOp; go_simp; try (first | rfl | omega | exact (IntWalk.i64_in _ (by omega)).trans (by omega))) ?_
        simp only [Act.put, sA9, sB9, sC9]
        refine Still.s_val rfl (.int .i64 (j2 : Nat)) (by unfold execOp; go_simp; rw [← Hj2.out]; try (first | rfl | omega)) ?_
        simp only [Act.put, sA9, sB9, sC9]
        refine Still.s_idxA rfl _ 132 _ _ rfl (w.heap.size) (0) rfl .i64 (j2) rfl l2 Tryz.underlying195 (size := 1) (by kernel_rfl) (j2) (by omega) ?_
        simp only [Act.put, sA9, sB9, sC9]
        refine Still.s_load1 rfl _ _ rfl (w.heap.size) (j2) rfl (.int .u32 (colW s j2 : Nat)) (HC.out j2 l2) Tryz.underlying132 rfl ?_
        simp only [Act.put, sA9, sB9, sC9]
        refine Still.s_val rfl (.int .u32 (colW s j2 / 256 : Nat)) (by unfold execOp; go_simp; try omega) ?_
        simp only [Act.put, sA9, sB9, sC9]
        refine Still.s_val rfl (.int .u32 (x2 : Nat)) (by unfold execOp; go_simp; exact D2.out) ?_
        simp only [Act.put, sA9, sB9, sC9]
        refine Still.s_val rfl (.pointer (some ⟨tb, tq, none⟩)) (by unfold execOp; go_simp) ?_
        simp only [Act.put, sA9, sB9, sC9]
        refine Still.s_idxA rfl _ 188 _ _ rfl (tb) (tq) rfl .i64 (2) rfl (by decide) Tryz.underlying189 (size := 256) (by kernel_rfl) (tq + 2 * 256) (rfl) ?_
        simp only [Act.put, sA9, sB9, sC9]
        refine Still.s_idxA rfl _ 132 _ _ rfl (tb) (tq + 2 * 256) rfl .u32 (x2) rfl xb2 Tryz.underlying188 (size := 1) (by kernel_rfl) (tq + (2 * 256 + x2)) (by omega) ?_
        simp only [Act.put, sA9, sB9, sC9]
        refine Still.s_load1 rfl _ _ rfl (tb) (tq + (2 * 256 + x2)) rfl (.int .u32 (T2 : Nat)) (F2.out) Tryz.underlying132 rfl ?_
        simp only [Act.put, sA9, sB9, sC9]
        refine Still.s_val rfl (.int .u32 (T0 ^^^ T1 ^^^ T2 : Nat)) (by unfold execOp; go_simp; exact xor_u32 _ _ (xor32 (t0) t1) t2) ?_
        simp only [Act.put, sA9, sB9, sC9]
        refine Still.s_move rfl _ rfl (.pointer (some ⟨tb, tq, none⟩)) rfl ?_
        simp only [Act.put, sA9, sB9, sC9]
        refine Still.s_move rfl _ rfl (.int .i64 (c : Nat)) rfl ?_
        simp only [Act.put, sA9, sB9, sC9]
        refine Still.s_move rfl _ rfl (.int .i64 (step : Nat)) rfl ?_
        simp only [Act.put, sA9, sB9, sC9]
        refine Still.s_val rfl (.int .i64 (3 * step : Nat)) (by unfold execOp; go_simp; try (first | rfl | omega | exact (IntWalk.i64_in _ (by omega)).trans (by omega))) ?_
        simp only [Act.put, sA9, sB9, sC9]
        refine Still.s_val rfl (.int .i64 (c + 3 * step : Nat)) (by unfold execOp; go_simp; try (first | rfl | omega | exact (IntWalk.i64_in _ (by omega)).trans (by omega))) ?_
        simp only [Act.put, sA9, sB9, sC9]
        refine Still.s_val rfl (.int .i64 (j3 : Nat)) (by unfold execOp; go_simp; rw [← Hj3.out]; try (first | rfl | omega)) ?_
        simp only [Act.put, sA9, sB9, sC9]
        refine Still.s_idxA rfl _ 132 _ _ rfl (w.heap.size) (0) rfl .i64 (j3) rfl l3 Tryz.underlying195 (size := 1) (by kernel_rfl) (j3) (by omega) ?_
        simp only [Act.put, sA9, sB9, sC9]
        refine Still.s_load1 rfl _ _ rfl (w.heap.size) (j3) rfl (.int .u32 (colW s j3 : Nat)) (HC.out j3 l3) Tryz.underlying132 rfl ?_
        simp only [Act.put, sA9, sB9, sC9]
        refine Still.s_val rfl (.int .u32 (x3 : Nat)) (by unfold execOp; go_simp; exact D3.out) ?_
        simp only [Act.put, sA9, sB9, sC9]
        refine Still.s_val rfl (.pointer (some ⟨tb, tq, none⟩)) (by unfold execOp; go_simp) ?_
        simp only [Act.put, sA9, sB9, sC9]
        refine Still.s_idxA rfl _ 188 _ _ rfl (tb) (tq) rfl .i64 (3) rfl (by decide) Tryz.underlying189 (size := 256) (by kernel_rfl) (tq + 3 * 256) (rfl) ?_
        simp only [Act.put, sA9, sB9, sC9]
        refine Still.s_idxA rfl _ 132 _ _ rfl (tb) (tq + 3 * 256) rfl .u32 (x3) rfl xb3 Tryz.underlying188 (size := 1) (by kernel_rfl) (tq + (3 * 256 + x3)) (by omega) ?_
        simp only [Act.put, sA9, sB9, sC9]
        refine Still.s_load1 rfl _ _ rfl (tb) (tq + (3 * 256 + x3)) rfl (.int .u32 (T3 : Nat)) (F3.out) Tryz.underlying132 rfl ?_
        simp only [Act.put, sA9, sB9, sC9]
        refine Still.s_val rfl (.int .u32 (T0 ^^^ T1 ^^^ T2 ^^^ T3 : Nat)) (by unfold execOp; go_simp; exact xor_u32 _ _ (xor32 (xor32 (t0) t1) t2) t3) ?_
        simp only [Act.put, sA9, sB9, sC9]
        refine Still.s_move rfl _ rfl (.slice (some ⟨wb, wo, none⟩) n cap) rfl ?_
        simp only [Act.put, sA9, sB9, sC9]
        refine Still.s_move rfl _ rfl (.int .i64 (4 * (q + 1) : Nat)) rfl ?_
        simp only [Act.put, sA9, sB9, sC9]
        refine Still.s_move rfl _ rfl (.int .i64 (c : Nat)) rfl ?_
        simp only [Act.put, sA9, sB9, sC9]
        refine Still.s_val rfl (.int .i64 (4 * (q + 1) + c : Nat)) (by unfold execOp; go_simp; try (first | rfl | omega | exact (IntWalk.i64_in _ (by omega)).trans (by omega))) ?_
        simp only [Act.put, sA9, sB9, sC9]
        refine Still.s_idxS rfl _ 132 _ _ rfl (wb) (wo) (n) (cap) rfl .i64 (4 * (q + 1) + c) rfl (by omega) Tryz.underlying131 (size := 1) (by kernel_rfl) (wo + (4 * (q + 1) + c)) (by omega) ?_
        simp only [Act.put, sA9, sB9, sC9]
        refine Still.s_load1 rfl _ _ rfl (wb) (wo + (4 * (q + 1) + c)) rfl (.int .u32 (colW (k (q + 1)) c : Nat)) (R5.out.ws (q + 1) c (by omega) hc4) Tryz.underlying132 rfl ?_
        simp only [Act.put, sA9, sB9, sC9]
        refine Still.s_val rfl (.int .u32 (colW s2 c : Nat)) (by unfold execOp; go_simp; exact (xor_u32 _ _ (xor32 (xor32 (xor32 (t0) t1) t2) t3) tk).trans RWC.out) ?_
        simp only [Act.put, sA9, sB9, sC9]
        refine Still.s_idxA rfl _ 132 _ _ rfl (nb) (0) rfl .i64 (c) rfl hc4 Tryz.underlying195 (size := 1) (by kernel_rfl) (c) (by omega) ?_
        simp only [Act.put, sA9, sB9, sC9]
        refine wpStill_nil ?_
        simp only [List.drop]
        refine Still.p_storeA rfl 132 _ _ rfl nb c rfl .u32 (colW s2 c : Nat) rfl (HA5.out.drew) hc4 (by kernel_rfl) ?_
        refine wpList_nil ?_
        simp only [Act.put]
        have HW6 : Hid (ThW w.heap.size w (wr.setCell ⟨nb, c, none⟩ (.int .u32 (colW s2 c : Nat))).drew fun c => (colW s c : Nat)) := Lib.hid ⟨(HW5.out.s.other (by show w.heap.size ≠ nb; omega) _).drew, (HW5.out.z.other (by show w.heap.size + 1 ≠ nb; omega) _).drew, (HW5.out.bel.setCell (by show w.heap.size ≤ nb; omega) _).drew⟩
        have HA6 := Lib.hid (HA5.out.store c (colW s2 c : Nat)).drew
        go_wp2
        go_roundw
        case rel =>
          refine ⟨c + 1, _, by omega, by go_num, HW6.out, HA6.out, fun c' hc' => ?_⟩
          unfold upd
          by_cases e : c' = c
          · rw [if_pos e, e]
          · rw [if_neg e]; exact HG5.out c' (by omega)
        case measure => simp [RowKit.intOf]; omega
      · obtain rfl : c = 4 := by omega
        have hg4 := HG5.out
        have hnb2 := hnb
        clear HG5
        go_wp2_with (first | (refine wpList_load_arr rfl 195 _ rfl _ rfl HA5.out Tryz.underlying195 rfl info4 ?_) | (refine wpList_store_arr rfl 195 _ _ rfl _ rfl rfl HW5.out.s info4 ?_; intro w7 hA hG hS))
        have HW7 : Hid (ThW w.heap.size w w7 fun c => (colW s2 c : Nat)) := Lib.hid ⟨hA.congr fun c hc => hg4 c hc, HW5.out.z.grown hG (by omega), HW5.out.bel.grown hG HW5.out.bel.size (fun j hj => by cases hj; exact Nat.le_refl _)⟩
        clear hA hG hS hg4
        go_wp2
        go_roundw
        case rel =>
          have hrl : q + 1 < nr ∧ Value.int .i64 (((4 * (q + 1) : Nat) : Int) + 4) = .int .i64 (4 * (q + 1 + 1) : Nat) ∧ (ThW w.heap.size w w7 fun c => (colW (stR m box step k st (q + 1)) c : Nat)) := ⟨hlt, by go_num, by rw [HS2.out]; exact HW7.out⟩
          first
            | exact ⟨q + 1, hrl⟩
            | ((repeat apply Exists.intro); exact ⟨⟨_, hrl⟩, rfl⟩)
        case measure => simp [RowKit.intOf]; omega
    · have hq1 : q = nr - 1 := by omega
      go_upto_region 17 with fail
      refine wp_region_lit ?_
      refine New.p_newarr rfl 195 rfl .u32 4 z4 ?_
      intro w3 a3 g3 s3
      refine wpList_nil ?_
      simp only [Act.put, sA9, sB9, sC9]
      have hb3 := bel_of_gb (_B := 0) g3
      have hnb : w.heap.size + 1 < wr.heap.size := HW.out.z.lt
      generalize wr.heap.size = nb at *
      have HW3 : Hid (ThW w.heap.size w w3 fun c => (colW (stR m box step k st q) c : Nat)) := Lib.hid ⟨HW.out.s.below hb3 (by omega), HW.out.z.below hb3 (by omega), HW.out.bel.trans (hb3.mono (by omega))⟩
      have HA3 := Lib.hid a3
      clear a3 g3 s3 hb3 HW
      have hsb : Byt (stR m box step k st q) 16 := stR_byt HB.out HS.out HK.out q (by omega)
      have HSB := Lib.hid hsb
      have RW := Lib.hid (fun c hc => last_word HB.out hsb (HK.out nr (Nat.le_refl _)) step c hc)
      have hst2 : thrB m box step k nr st = fun i => rowB box step (stR m box step k st q) i ^^^ k nr i := by rw [hq1]; rfl
      rw [← hst2] at RW
      clear hsb hst2
      generalize ht2 : thrB m box step k nr st = s2 at RW
      have HT2 := Lib.hid ht2
      clear ht2
      generalize hS1 : stR m box step k st q = s at *
      clear hS1
      go_wp2
      go_loopw [17, 103] (fun _ p w5 => ∃ (c : Nat) (g : Nat → Int), c ≤ 4 ∧ p = .int .i64 c ∧ (ThW w.heap.size w w5 fun c => (colW s c : Nat)) ∧ Arr w5 nb .u32 4 195 g ∧ ∀ c', c' < c → g c' = (colW s2 c' : Nat)) (fun _ p _ => 4 - (RowKit.intOf p).toNat)
      case atStart => exact ⟨0, _, by decide, rfl, HW3.out, HA3.out, fun _ h => by omega⟩
      case round =>
      obtain ⟨c, g, hc, rfl, hw, ha, hg⟩ := hrel
      have HW5 := Lib.hid hw
      have HA5 := Lib.hid ha
      have HG5 := Lib.hid hg
      clear hw ha hg HW3 HA3
      by_cases hc4 : c < 4
      · have R5 := Lib.hid (HR.out.below HW5.out.bel)
        have HC : Hid (∀ j, j < 4 → World.cell? wr ⟨w.heap.size, j, none⟩ = some (.int .u32 (colW s j : Nat))) := Lib.hid (fun j hj => HW5.out.s.cell hj)
        obtain ⟨j1, hj1⟩ : ∃ j, (c + step) % 4 = j := ⟨_, rfl⟩
        obtain ⟨j2, hj2⟩ : ∃ j, (c + 2) % 4 = j := ⟨_, rfl⟩
        obtain ⟨j3, hj3⟩ : ∃ j, (c + 3 * step) % 4 = j := ⟨_, rfl⟩
        have l1 : j1 < 4 := by omega
        have l2 : j2 < 4 := by omega
        have l3 : j3 < 4 := by omega
        have xb0 := HSB.out (4 * c + 0) (by omega)
        have cl0 : colW s c < 4294967296 := colW_lt HSB.out (by omega)
        have xb1 := HSB.out (4 * j1 + 1) (by omega)
        have cl1 : colW s j1 < 4294967296 := colW_lt HSB.out (by omega)
        have xb2 := HSB.out (4 * j2 + 2) (by omega)
        have cl2 : colW s j2 < 4294967296 := colW_lt HSB.out (by omega)
        have xb3 := HSB.out (4 * j3 + 3) (by omega)
        have cl3 : colW s j3 < 4294967296 := colW_lt HSB.out (by omega)
        have D0 : Hid (((colW s c : Nat) : Int) / 16777216 = (s (4 * c + 0) : Nat)) := Lib.hid (by rw [← wd_0 (colW_byt HSB.out hc4)]; simp [colW])
        have D1 : Hid (bits .and .u32 ((colW s j1 / 65536 : Nat) : Int) 255 = (s (4 * j1 + 1) : Nat)) := Lib.hid (by rw [and255 _ (by omega)]; exact congrArg Nat.cast (wd_1 (colW_byt HSB.out l1)))
        have D2 : Hid (bits .and .u32 ((colW s j2 / 256 : Nat) : Int) 255 = (s (4 * j2 + 2) : Nat)) := Lib.hid (by rw [and255 _ (by omega)]; exact congrArg Nat.cast (wd_2 (colW_byt HSB.out l2)))
        have D3 : Hid (bits .and .u32 ((colW s j3 : Nat) : Int) 255 = (s (4 * j3 + 3) : Nat)) := Lib.hid (by rw [and255 _ (by omega)]; exact congrArg Nat.cast (wd_3 (colW_byt HSB.out l3)))
        have Hj1 := Lib.hid hj1
        have Hj2 := Lib.hid hj2
        have Hj3 := Lib.hid hj3
        clear hj1 hj2 hj3
        have yb0 := HB.out (s (4 * c + 0)) xb0
        have F0 := Lib.hid (R5.out.l (s (4 * c + 0)) xb0)
        have yb1 := HB.out (s (4 * j1 + 1)) xb1
        have F1 := Lib.hid (R5.out.l (s (4 * j1 + 1)) xb1)
        have yb2 := HB.out (s (4 * j2 + 2)) xb2
        have F2 := Lib.hid (R5.out.l (s (4 * j2 + 2)) xb2)
        have yb3 := HB.out (s (4 * j3 + 3)) xb3
        have F3 := Lib.hid (R5.out.l (s (4 * j3 + 3)) xb3)
        have RWC : Hid ((((box (s (4 * c + 0)) * 16777216 + box (s (4 * j1 + 1)) * 65536 + box (s (4 * j2 + 2)) * 256 + box (s (4 * j3 + 3))) ^^^ colW (k nr) c : Nat) : Int) = (colW s2 c : Nat)) := Lib.hid (by
          have := RW.out c hc4
          rw [J2.out c, Hj1.out, Hj2.out, Hj3.out] at this
          exact congrArg Nat.cast this)
        generalize s (4 * c + 0) = x0 at *
        generalize s (4 * j1 + 1) = x1 at *
        generalize s (4 * j2 + 2) = x2 at *
        generalize s (4 * j3 + 3) = x3 at *
        generalize box x0 = y0 at *
        generalize box x1 = y1 at *
        generalize box x2 = y2 at *
        generalize box x3 = y3 at *
        have tk : colW (k nr) c < 4294967296 := colW_lt (HK.out nr (Nat.le_refl _)) hc4
        obtain ⟨O, hO⟩ : ∃ O, y0 * 16777216 + y1 * 65536 + y2 * 256 + y3 = O := ⟨_, rfl⟩
        have hOl : O < 4294967296 := by omega
        have O1 := Lib.hid (or_a y0 y1 yb0 yb1)
        have O2 := Lib.hid (or_b y0 y1 y2 yb0 yb1 yb2)
        have o3 := or_c y0 y1 y2 y3 yb0 yb1 yb2 yb3
        rw [hO] at o3 RWC
        have O3 := Lib.hid o3
        clear o3 hO
        go_upto_region 21 with fail
        refine wp_region_still_tail 62 (by kernel_rfl) (by kernel_rfl) ?_
        refine Still.s_move rfl _ rfl (.int .i64 (c : Nat)) rfl ?_
        simp only [Act.put, sA9, sB9, sC9]
        refine Still.s_move rfl _ rfl (.pointer (some ⟨lb, lo, none⟩)) rfl ?_
        simp only [Act.put, sA9, sB9, sC9]
        refine Still.s_move rfl _ rfl (.int .i64 (c : Nat)) rfl ?_
        simp only [Act.put, sA9, sB9, sC9]
        refine Still.s_idxA rfl _ 132 _ _ rfl (w.heap.size) (0) rfl .i64 (c) rfl hc4 Tryz.underlying195 (size := 1) (by kernel_rfl) (c) (by omega) ?_
        simp only [Act.put, sA9, sB9, sC9]
        refine Still.s_load1 rfl _ _ rfl (w.heap.size) (c) rfl (.int .u32 (colW s c : Nat)) (HC.out c hc4) Tryz.underlying132 rfl ?_
        simp only [Act.put, sA9, sB9, sC9]
        refine Still.s_val rfl (.int .u32 (x0 : Nat)) (by unfold execOp; go_simp; exact D0.out) ?_
        simp only [Act.put, sA9, sB9, sC9]
        refine Still.s_val rfl (.pointer (some ⟨lb, lo, none⟩)) (by unfold execOp; go_simp) ?_
        simp only [Act.put, sA9, sB9, sC9]
        refine Still.s_idxA rfl _ 5 _ _ rfl (lb) (lo) rfl .u32 (x0) rfl xb0 Tryz.underlying175 (size := 1) (by kernel_rfl) (lo + x0) (by omega) ?_
        simp only [Act.put, sA9, sB9, sC9]
        refine Still.s_load1 rfl _ _ rfl (lb) (lo + x0) rfl (.int .u8 (y0 : Nat)) (F0.out) Tryz.underlying5 rfl ?_
        simp only [Act.put, sA9, sB9, sC9]
        refine Still.s_val rfl (.int .u32 (y0 : Nat)) (by unfold execOp; go_simp; exact wrap32u _ (Int.natCast_nonneg _) (by omega)) ?_
        simp only [Act.put, sA9, sB9, sC9]
        refine Still.s_val rfl (.int .u32 (y0 * 16777216 : Nat)) (by unfold execOp; go_simp; exact (wrap32u _ (by omega) (by omega)).trans (by omega)) ?_
        simp only [Act.put, sA9, sB9, sC9]
        refine Still.s_move rfl _ rfl (.pointer (some ⟨lb, lo, none⟩)) rfl ?_
        simp only [Act.put, sA9, sB9, sC9]
        refine Still.s_move rfl _ rfl (.int .i64 (c : Nat)) rfl ?_
        simp only [Act.put, sA9, sB9, sC9]
        refine Still.s_move rfl _ rfl (.int .i64 (step : Nat)) rfl ?_
        simp only [Act.put, sA9, sB9, sC9]
        refine Still.s_val rfl (.int .i64 (c + step : Nat)) (by unfold execOp; go_simp; try (first | rfl | omega | exact (IntWalk.i64_in _ (by omega)).trans (by omega))) ?_
        simp only [Act.put, sA9, sB9, sC9]
        refine Still.s_val rfl (.int .i64 (j1 : Nat)) (by unfold execOp; go_simp; rw [← Hj1.out]; try (first | rfl | omega)) ?_
        simp only [Act.put, sA9, sB9, sC9]
        refine Still.s_idxA rfl _ 132 _ _ rfl (w.heap.size) (0) rfl .i64 (j1) rfl l1 Tryz.underlying195 (size := 1) (by kernel_rfl) (j1) (by omega) ?_
        simp only [Act.put, sA9, sB9, sC9]
        refine Still.s_load1 rfl _ _ rfl (w.heap.size) (j1) rfl (.int .u32 (colW s j1 : Nat)) (HC.out j1 l1) Tryz.underlying132 rfl ?_
        simp only [Act.put, sA9, sB9, sC9]
        refine Still.s_val rfl (.int .u32 (colW s j1 / 65536 : Nat)) (by unfold execOp; go_simp; try omega) ?_
        simp only [Act.put, sA9, sB9, sC9]
        refine Still.s_val rfl (.int .u32 (x1 : Nat)) (by unfold execOp; go_simp; exact D1.out) ?_
        simp only [Act.put, sA9, sB9, sC9]
        refine Still.s_val rfl (.pointer (some ⟨lb, lo, none⟩)) (by unfold execOp; go_simp) ?_
        simp only [Act.put, sA9, sB9, sC9]
        refine Still.s_idxA rfl _ 5 _ _ rfl (lb) (lo) rfl .u32 (x1) rfl xb1 Tryz.underlying175 (size := 1) (by kernel_rfl) (lo + x1) (by omega) ?_
        simp only [Act.put, sA9, sB9, sC9]
        refine Still.s_load1 rfl _ _ rfl (lb) (lo + x1) rfl (.int .u8 (y1 : Nat)) (F1.out) Tryz.underlying5 rfl ?_
        simp only [Act.put, sA9, sB9, sC9]
        refine Still.s_val rfl (.int .u32 (y1 : Nat)) (by unfold execOp; go_simp; exact wrap32u _ (Int.natCast_nonneg _) (by omega)) ?_
        simp only [Act.put, sA9, sB9, sC9]
        refine Still.s_val rfl (.int .u32 (y1 * 65536 : Nat)) (by unfold execOp; go_simp; exact (wrap32u _ (by omega) (by omega)).trans (by omega)) ?_
        simp only [Act.put, sA9, sB9, sC9]
        refine Still.s_val rfl (.int .u32 (y0 * 16777216 + y1 * 65536 : Nat)) (by unfold execOp; go_simp; exact O1.out) ?_
        simp only [Act.put, sA9, sB9, sC9]
        refine Still.s_move rfl _ rfl (.pointer (some ⟨lb, lo, none⟩)) rfl ?_
        simp only [Act.put, sA9, sB9, sC9]
        refine Still.s_move rfl _ rfl (.int .i64 (c : Nat)) rfl ?_
        simp only [Act.put, sA9, sB9, sC9]
        refine Still.s_val rfl (.int .i64 (c + 2 : Nat)) (by unfold execOp; go_simp; try (first | rfl | omega | exact (IntWalk.i64_in _ (by omega)).trans (by omega))) ?_
        simp only [Act.put, sA9, sB9, sC9]
        refine Still.s_val rfl (.int .i64 (j2 : Nat)) (by unfold execOp; go_simp; rw [← Hj2.out]; try (first | rfl | omega)) ?_
        simp only [Act.put, sA9, sB9, sC9]
        refine Still.s_idxA rfl _ 132 _ _ rfl (w.heap.size) (0) rfl .i64 (j2) rfl l2 Tryz.underlying195 (size := 1) (by kernel_rfl) (j2) (by omega) ?_
        simp only [Act.put, sA9, sB9, sC9]
        refine Still.s_load1 rfl _ _ rfl (w.heap.size) (j2) rfl (.int .u32 (colW s j2 : Nat)) (HC.out j2 l2) Tryz.underlying132 rfl ?_
        simp only [Act.put, sA9, sB9, sC9]
        refine Still.s_val rfl (.int .u32 (colW s j2 / 256 : Nat)) (by unfold execOp; go_simp; try omega) ?_
        simp only [Act.put, sA9, sB9, sC9]
        refine Still.s_val rfl (.int .u32 (x2 : Nat)) (by unfold execOp; go_simp; exact D2.out) ?_
        simp only [Act.put, sA9, sB9, sC9]
        refine Still.s_val rfl (.pointer (some ⟨lb, lo, none⟩)) (by unfold execOp; go_simp) ?_
        simp only [Act.put, sA9, sB9, sC9]
        refine Still.s_idxA rfl _ 5 _ _ rfl (lb) (lo) rfl .u32 (x2) rfl xb2 Tryz.underlying175 (size := 1) (by kernel_rfl) (lo + x2) (by omega) ?_
        simp only [Act.put, sA9, sB9, sC9]
        refine Still.s_load1 rfl _ _ rfl (lb) (lo + x2) rfl (.int .u8 (y2 : Nat)) (F2.out) Tryz.underlying5 rfl ?_
        simp only [Act.put, sA9, sB9, sC9]
        refine Still.s_val rfl (.int .u32 (y2 : Nat)) (by unfold execOp; go_simp; exact wrap32u _ (Int.natCast_nonneg _) (by omega)) ?_
        simp only [Act.put, sA9, sB9, sC9]
        refine Still.s_val rfl (.int .u32 (y2 * 256 : Nat)) (by unfold execOp; go_simp; exact (wrap32u _ (by omega) (by omega)).trans (by omega)) ?_
        simp only [Act.put, sA9, sB9, sC9]
        refine Still.s_val rfl (.int .u32 (y0 * 16777216 + y1 * 65536 + y2 * 256 : Nat)) (by unfold execOp; go_simp; exact O2.out) ?_
        simp only [Act.put, sA9, sB9, sC9]
        refine Still.s_move rfl _ rfl (.pointer (some ⟨lb, lo, none⟩)) rfl ?_
        simp only [Act.put, sA9, sB9, sC9]
        refine Still.s_move rfl _ rfl (.int .i64 (c : Nat)) rfl ?_
        simp only [Act.put, sA9, sB9, sC9]
        refine Still.s_move rfl _ rfl (.int .i64 (step : Nat)) rfl ?_
        simp only [Act.put, sA9, sB9, sC9]
        refine Still.s_val rfl (.int .i64 (3 * step : Nat)) (by unfold execOp; go_simp; try (first | rfl | omega | exact (IntWalk.i64_in _ (by omega)).trans (by omega))) ?_
        simp only [Act.put, sA9, sB9, sC9]
        refine Still.s_val rfl (.int .i64 (c + 3 * step : Nat)) (by unfold execOp; go_simp; try (first | rfl | omega | exact (IntWalk.i64_in _ (by omega)).trans (by omega))) ?_
        simp only [Act.put, sA9, sB9, sC9]
        refine Still.s_val rfl (.int .i64 (j3 : Nat)) (by unfold execOp; go_simp; rw [← Hj3.out]; try (first | rfl | omega)) ?_
        simp only [Act.put, sA9, sB9, sC9]
        refine Still.s_idxA rfl _ 132 _ _ rfl (w.heap.size) (0) rfl .i64 (j3) rfl l3 Tryz.underlying195 (size := 1) (by kernel_rfl) (j3) (by omega) ?_
        simp only [Act.put, sA9, sB9, sC9]
        refine Still.s_load1 rfl _ _ rfl (w.heap.size) (j3) rfl (.int .u32 (colW s j3 : Nat)) (HC.out j3 l3) Tryz.underlying132 rfl ?_
        simp only [Act.put, sA9, sB9, sC9]
        refine Still.s_val rfl (.int .u32 (x3 : Nat)) (by unfold execOp; go_simp; exact D3.out) ?_
        simp only [Act.put, sA9, sB9, sC9]
        refine Still.s_val rfl (.pointer (some ⟨lb, lo, none⟩)) (by unfold execOp; go_simp) ?_
        simp only [Act.put, sA9, sB9, sC9]
        refine Still.s_idxA rfl _ 5 _ _ rfl (lb) (lo) rfl .u32 (x3) rfl xb3 Tryz.underlying175 (size := 1) (by kernel_rfl) (lo + x3) (by omega) ?_
        simp only [Act.put, sA9, sB9, sC9]
        refine Still.s_load1 rfl _ _ rfl (lb) (lo + x3) rfl (.int .u8 (y3 : Nat)) (F3.out) Tryz.underlying5 rfl ?_
        simp only [Act.put, sA9, sB9, sC9]
        refine Still.s_val rfl (.int .u32 (y3 : Nat)) (by unfold execOp; go_simp; exact wrap32u _ (Int.natCast_nonneg _) (by omega)) ?_
        simp only [Act.put, sA9, sB9, sC9]
        refine Still.s_val rfl (.int .u32 (O : Nat)) (by unfold execOp; go_simp; exact O3.out) ?_
        simp only [Act.put, sA9, sB9, sC9]
        refine Still.s_move rfl _ rfl (.slice (some ⟨wb, wo, none⟩) n cap) rfl ?_
        simp only [Act.put, sA9, sB9, sC9]
        refine Still.s_move rfl _ rfl (.int .i64 ((n : Int) - 4)) rfl ?_
        simp only [Act.put, sA9, sB9, sC9]
        refine Still.s_move rfl _ rfl (.int .i64 (c : Nat)) rfl ?_
        simp only [Act.put, sA9, sB9, sC9]
        refine Still.s_val rfl (.int .i64 (4 * nr + c : Nat)) (by unfold execOp; go_simp; try (first | rfl | omega | exact (IntWalk.i64_in _ (by omega)).trans (by omega))) ?_
        simp only [Act.put, sA9, sB9, sC9]
        refine Still.s_idxS rfl _ 132 _ _ rfl (wb) (wo) (n) (cap) rfl .i64 (4 * nr + c) rfl (by omega) Tryz.underlying131 (size := 1) (by kernel_rfl) (wo + (4 * nr + c)) (by omega) ?_
        simp only [Act.put, sA9, sB9, sC9]
        refine Still.s_load1 rfl _ _ rfl (wb) (wo + (4 * nr + c)) rfl (.int .u32 (colW (k nr) c : Nat)) (R5.out.ws nr c (Nat.le_refl _) hc4) Tryz.underlying132 rfl ?_
        simp only [Act.put, sA9, sB9, sC9]
        refine Still.s_val rfl (.int .u32 (colW s2 c : Nat)) (by unfold execOp; go_simp; exact (xor_u32 _ _ hOl tk).trans RWC.out) ?_
        simp only [Act.put, sA9, sB9, sC9]
        refine Still.s_idxA rfl _ 132 _ _ rfl (nb) (0) rfl .i64 (c) rfl hc4 Tryz.underlying195 (size := 1) (by kernel_rfl) (c) (by omega) ?_
        simp only [Act.put, sA9, sB9, sC9]
        refine wpStill_nil ?_
        simp only [List.drop]
        refine Still.p_storeA rfl 132 _ _ rfl nb c rfl .u32 (colW s2 c : Nat) rfl (HA5.out.drew) hc4 (by kernel_rfl) ?_
        refine wpList_nil ?_
        simp only [Act.put]
        have HW6 : Hid (ThW w.heap.size w (wr.setCell ⟨nb, c, none⟩ (.int .u32 (colW s2 c : Nat))).drew fun c => (colW s c : Nat)) := Lib.hid ⟨(HW5.out.s.other (by show w.heap.size ≠ nb; omega) _).drew, (HW5.out.z.other (by show w.heap.size + 1 ≠ nb; omega) _).drew, (HW5.out.bel.setCell (by show w.heap.size ≤ nb; omega) _).drew⟩
        have HA6 := Lib.hid (HA5.out.store c (colW s2 c : Nat)).drew
        go_wp2
        go_roundw
        case rel =>
          refine ⟨c + 1, _, by omega, by go_num, HW6.out, HA6.out, fun c' hc' => ?_⟩
          unfold upd
          by_cases e : c' = c
          · rw [if_pos e, e]
          · rw [if_neg e]; exact HG5.out c' (by omega)
        case measure => simp [RowKit.intOf]; omega
      · obtain rfl : c = 4 := by omega
        have hg4 := HG5.out
        clear HG5
        go_wp2_with (first | (refine wpList_load_arr rfl 195 _ rfl _ rfl HA5.out Tryz.underlying195 rfl info4 ?_) | (refine wpList_store_arr rfl 195 _ _ rfl _ rfl rfl HW5.out.z info4 ?_; intro w7 hA hG hS))
        refine ret_arr rfl rfl hA Tryz.underlying195 rfl info4 rfl ⟨?_, HW5.out.bel.grown hG HW5.out.bel.size (fun j hj => by cases hj; exact Nat.le_succ _)⟩
        exact congrArg (fun x => Ending.returned (.agg x)) (arr_congr fun c hc => by rw [HT2.out]; exact hg4 c hc)
end Go.Proofs.YtmifebcaifbmoaaGreatDoor.Rj
end
