/- Parts of the proof of TweakBlocks. Rj18: rijndael: a key is made. -/
import Derived.Test.YtmifebcaifbmoaaGreatDoorL00
import Derived.Test.YtmifebcaifbmoaaGreatDoorL08
/- Rj18 -/
section
namespace Go.Proofs.YtmifebcaifbmoaaGreatDoor.Rj
open Go.RowKit Go.Lib Go.Proofs.YtmifebcaifbmoaaGreatDoor.Blk Go.Proofs.YtmifebcaifbmoaaGreatDoor.Aes Go.Proofs.YtmifebcaifbmoaaGreatDoor.Seg

structure MadeW (key : Nat → Nat) (nk n : Nat) (B tb wb : Nat) (w wr : World) (f : Nat → Int) (t : Nat) : Prop where
  tab : TabAt wr tb
  a : Arr wr wb .u32 n 132 f
  bel : Below B w wr
  le : B ≤ wb
  done : ∀ x, x < t → f x = (wd (kw nk key x) : Nat)

theorem TabAt.lt {w : World} {b : Nat} (h : TabAt w b) : b < w.heap.size := by
  obtain ⟨C, h1, _⟩ := h
  exact (Array.getElem?_eq_some_iff.1 h1).1
theorem TabAt.set {w : World} {b g : Nat} (h : TabAt w b) (hg : b ≠ g) (o : Nat) (v : Value) : TabAt (w.setCell ⟨g, o, none⟩ v) b := by
  obtain ⟨C, h1, h2⟩ := h
  exact ⟨C, (Below.heap_setCell w ⟨g, o, none⟩ v b hg).trans h1, h2⟩

/-- the next word, of the whole schedule -/
theorem next_kw {nk : Nat} {key : Nat → Nat} (hk : Byt key (4 * nk)) (h1 : 1 ≤ nk) (x : Nat) (hx1 : nk ≤ x) (hx2 : x < 4 * (nk + 7)) : wd (kw nk key (x - nk)) ^^^ wd (tB nk x (kw nk key (x - 1))) = wd (kw nk key x) := by
  obtain ⟨n, rfl⟩ := Nat.exists_eq_add_of_le hx1
  rw [show nk + n - nk = n by omega, kw_of (n := n) (i := n) (by omega) (by omega), kw_of (n := n) (i := nk + n - 1) (by omega) (by omega), kw_of (n := n + 1) (i := nk + n) (by omega) (by omega)]
  exact next_word hk h1 n
theorem rot_or (V : Nat) (h : V < 4294967296) : bits .or .u32 ((V % 16777216 * 256 : Nat) : Int) ((V / 16777216 : Nat) : Int) = ((V % 16777216 * 256 + V / 16777216 : Nat) : Int) := by
  rw [or_u32 _ _ (by omega) (by omega)]
  have := Nat.two_pow_add_eq_or_of_lt (i := 8) (b := V / 16777216) (by omega) (V % 16777216)
  rw [Nat.mul_comm, ← this]

set_option maxRecDepth 100000 in
set_option maxHeartbeats 8000000 in
theorem new_any (key : Nat → Nat) (nk : Nat) (hnk : nk = 4 ∨ nk = 6 ∨ nk = 8) (hkey : Byt key (4 * nk)) (g off cap : Nat) (w : World) (hc : ∀ j, j < 4 * nk → w.cell? ⟨g, off + j, none⟩ = some (.int .u8 (key j : Nat))) (hcap : 4 * nk ≤ cap) (hcm : cap ≤ 9223372036854775807)
    (hrc : ∀ i, i < 10 → w.cell? ⟨2, i, none⟩ = some (.int .u8 (rc i : Nat))) :
    Calls Tryz.prog 51 #[.slice (some ⟨g, off, none⟩) (4 * nk) cap] w fun e w' => ∃ kb tb wb bb, e = .returned (.tuple #[.pointer (some ⟨kb, 0, none⟩), .int .i64 0]) ∧ KeyAt (4 * nk : Nat) (rk nk key) (nk + 6) tb wb bb kb w' ∧ Below w.heap.size w w' := by
  have HC := Lib.hid hc
  have HR := Lib.hid hrc
  have HY := Lib.hid hkey
  clear hc hrc hkey
  have MD := Lib.hid (fun w => made_any w)
  have MK := fun w => (by have := mk_words (4 * (nk + 7)) (by omega) w; rwa [show ((4 * (nk + 7) : Nat) : Int) = 4 * ((nk : Int) + 7) by omega] at this : (Instr.makeSlice 131 (.int .i64 (4 * ((nk : Int) + 7))) (.int .i64 (4 * ((nk : Int) + 7)))).run Tryz.prog w = .ok (.slice (some ⟨w.heap.size, 0, none⟩) (4 * (nk + 7)) (4 * (nk + 7))) (w.alloc (.cells (arr .u32 (4 * (nk + 7)) fun _ => 0) 132)))
  have q0 : ((4 * nk : Nat) : Int) / 4 = (nk : Nat) := by omega
  go_enter Tryz.func51, Tryz.ntmps51
  go_wp2_with (go_at_call 92; refine (MD.out _).mono ?_; rintro e w' ⟨tb, rfl, hle, ht, hb⟩)
  all_goals
    have HT := Lib.hid ht
    have HB := Lib.hid hb
    clear ht hb
    go_loopw [25, 7] (fun p _ wr => ∃ (i : Nat) (f : Nat → Int), i ≤ nk ∧ p = .int .i64 i ∧ MadeW key nk (4 * (nk + 7)) w.heap.size tb w'.heap.size w wr f i) (fun p _ _ => nk - (RowKit.intOf p).toNat)
    case atStart => exact ⟨0, _, by omega, rfl, ⟨HT.out.below (bel_of_gb (_B := 0) (World.grownBy_alloc _ _ none)), heap_alloc_new _ _, HB.out.alloc HB.out.size _, HB.out.size, fun x h => by omega⟩⟩
    case round =>
      obtain ⟨i, f, hi, rfl, hw⟩ := hrel
      have H1 := Lib.hid hw
      clear hw
      by_cases hlt : i < nk
      · have hcell := H1.out.a.cell (i := i) (by omega)
        have hfr := H1.out.a.free i
        have NM := Lib.hid (number_any (fun j => key (4 * i + j)) (fun j hj => HY.out _ (by omega)) g (off + 4 * i) (4 * nk - 4 * i) (cap - 4 * i) wr (fun j hj => by
          have e := HC.out (4 * i + j) (by omega)
          rw [Nat.add_assoc]
          exact (H1.out.bel.cell (p := ⟨g, off + (4 * i + j), none⟩) (Frame.block_lt e)).trans e) (by omega) (by omega) (by omega))
        have KW : Hid (wd (kw nk key i) = wd fun j => key (4 * i + j)) := Lib.hid (by rw [kw_of (n := 0) (by omega) (by omega)]; rfl)
        have hwl : wd (fun j => key (4 * i + j)) < 4294967296 := wd_lt fun j hj => HY.out _ (by omega)
        generalize (wd fun j => key (4 * i + j)) = V at *
        go_wp2_with (go_at_call 93; refine NM.out.mono ?_; rintro e w9 ⟨rfl, rfl⟩)
        refine ⟨⟨i + 1, _, by omega, by go_num, ⟨H1.out.tab.set (by have := HT.out.lt; omega) _ _, H1.out.a.store i _, H1.out.bel.setCell H1.out.le _, H1.out.le, ?_⟩⟩, by simp [RowKit.intOf]; omega⟩
        intro x hx
        unfold upd
        by_cases e : x = i
        · subst e
          rw [if_pos rfl, KW.out]
        · rw [if_neg e]
          exact H1.out.done x (by omega)
      · obtain ⟨i0, hi0⟩ : ∃ i0, i0 = i := ⟨_, rfl⟩
        have hik : i = nk := by omega
        clear hi0 i0
        rw [hik] at H1
        go_wp2
        go_loopw [8, 9] (fun p _ w2 => ∃ (x : Nat) (f2 : Nat → Int), nk ≤ x ∧ x ≤ 4 * (nk + 7) ∧ p = .int .i64 x ∧ MadeW key nk (4 * (nk + 7)) w.heap.size tb w'.heap.size w w2 f2 x) (fun p _ _ => 4 * (nk + 7) - (RowKit.intOf p).toNat)
        case atStart => exact ⟨nk, f, by omega, by omega, rfl, H1.out⟩
        case round =>
          obtain ⟨x, f2, hx1, hx2, rfl, hw⟩ := hrel
          have H2 := Lib.hid hw
          clear hw
          by_cases hlt2 : x < 4 * (nk + 7)
          · have NW := Lib.hid (next_kw HY.out (by omega) x hx1 hlt2)
            have KB := Lib.hid (kw_byt HY.out (by omega) (i := x - 1) (by omega))
            have hprev := H2.out.a.cell (i := x - 1) (by omega)
            rw [H2.out.done (x - 1) (by omega)] at hprev
            have hback := H2.out.a.cell (i := x - nk) (by omega)
            rw [H2.out.done (x - nk) (by omega)] at hback
            have hst := H2.out.a.cell (i := x) (by omega)
            have hfr := H2.out.a.free x
            have hvl : wd (kw nk key (x - 1)) < 4294967296 := wd_lt KB.out
            have hul : wd (kw nk key (x - nk)) < 4294967296 := wd_lt (kw_byt HY.out (by omega) (by omega))
            generalize hP : kw nk key (x - 1) = P at *
            generalize wd (kw nk key (x - nk)) = U at *
            have hrm : (x : Int).tmod nk = (x % nk : Nat) := rfl
            obtain ⟨r, hr⟩ : ∃ r, x % nk = r := ⟨_, rfl⟩
            rw [hr] at hrm
            have hnz : ¬ ((nk : Int) = 0) := by omega
            have HPR := Lib.hid hprev
            have HBK := Lib.hid hback
            have HST := Lib.hid hst
            have HFR := Lib.hid hfr
            clear hP hprev hback hst hfr
            go_upto_region 17 with fail
            refine wp_region_lit ?_
            refine Step.p_move rfl _ rfl (.slice (some ⟨w'.heap.size, 0, none⟩) (4 * (nk + 7)) (4 * (nk + 7))) rfl ?_
            simp only [Act.put, sA9, sB9, sC9]
            refine Step.p_move rfl _ rfl (.int .i64 x) rfl ?_
            simp only [Act.put, sA9, sB9, sC9]
            refine Step.p_val rfl (.int .i64 (x - 1 : Nat)) (by unfold execOp; go_simp; try (first | rfl | omega | exact (IntWalk.i64_in _ (by omega)).trans (by omega))) ?_
            simp only [Act.put, sA9, sB9, sC9]
            refine Step.p_index rfl _ 132 _ _ rfl w'.heap.size 0 (4 * (nk + 7)) (4 * (nk + 7)) rfl (x - 1) rfl (by omega) 1 Tryz.underlying131 (by kernel_rfl) ?_
            simp only [Act.put, sA9, sB9, sC9]
            refine Tree.p_load1 rfl _ _ rfl (w'.heap.size) (0 + (x - 1) * 1) rfl (.int .u32 (wd P : Nat)) (by rw [Nat.mul_one, Nat.zero_add]; exact HPR.out) Tryz.underlying132 rfl ?_
            simp only [Act.put, sA9, sB9, sC9]
            refine Step.p_assign rfl _ rfl (.int .u32 (wd P : Nat)) rfl ?_
            simp only [Act.put, sA9, sB9, sC9]
            refine wpList_nil ?_
            go_upto_region 18 with fail
            refine wp_region_lit ?_
            refine Step.p_move rfl _ rfl (.int .i64 x) rfl ?_
            simp only [Act.put, sA9, sB9, sC9]
            refine Step.p_move rfl _ rfl (.int .i64 nk) rfl ?_
            simp only [Act.put, sA9, sB9, sC9]
            refine Step.p_val rfl (.int .i64 r) (by unfold execOp; go_simp; omega) ?_
            simp only [Act.put, sA9, sB9, sC9]
            refine wpList_nil ?_
            clear hrm
            by_cases h0 : r = 0
            · subst h0
              have hq : x / nk - 1 < 10 ∧ 1 ≤ x / nk := by
                rcases hnk with rfl | rfl | rfl <;> omega
              have hqd : (x : Int).tdiv nk = (x / nk : Nat) := rfl
              generalize hqe : x / nk = q at hqd hq
              obtain ⟨hq9, hq1⟩ := hq
              have e0 := HR.out (q - 1) hq9
              have hrc := (H2.out.bel.cell (p := ⟨2, q - 1, none⟩) (Frame.block_lt e0)).trans e0
              clear e0
              have hrl := rc_lt (q - 1)
              have RF := Lib.hid (add_first (nk := nk) (i := x) KB.out hr)
              rw [hqe] at RF
              have hrb : Byt (fun j => P ((j + 1) % 4)) 4 := fun j _ => KB.out _ (Nat.mod_lt _ (by decide))
              have HRB := Lib.hid hrb
              have WC := Lib.hid (fun w' (h' : Below wr.heap.size wr w') => word_any (fun j => P ((j + 1) % 4)) HRB.out tb w' (H2.out.tab.below h'))
              have hsl : wd (fun j => S (P ((j + 1) % 4))) < 4294967296 := wd_lt fun j hj => S_lt _ (KB.out _ (Nat.mod_lt _ (by decide)))
              have htl : wd (tB nk x P) < 4294967296 := wd_lt (tB_lt KB.out)
              have ROT := Lib.hid (rot_wd KB.out)
              clear hqe hrb
              go_upto_region 20 with fail
              refine wp_region_lit ?_
              refine Step.p_move rfl _ rfl (.int .u32 (wd P : Nat)) rfl ?_
              simp only [Act.put, sA9, sB9, sC9]
              refine Step.p_val rfl (.int .u32 (wd P % 16777216 * 256 : Nat)) (by unfold execOp; go_simp; rw [IntKind.wrap_u32]; omega) ?_
              simp only [Act.put, sA9, sB9, sC9]
              refine Step.p_move rfl _ rfl (.int .u32 (wd P : Nat)) rfl ?_
              simp only [Act.put, sA9, sB9, sC9]
              refine Step.p_val rfl (.int .u32 (wd P / 16777216 : Nat)) (by unfold execOp; go_simp; try omega) ?_
              simp only [Act.put, sA9, sB9, sC9]
              refine Step.p_val rfl (.int .u32 (wd (fun j => P ((j + 1) % 4)) : Nat)) (by unfold execOp; go_simp; rw [← ROT.out]; exact rot_or _ hvl) ?_
              simp only [Act.put, sA9, sB9, sC9]
              refine Step.p_assign rfl _ rfl (.int .u32 (wd (fun j => P ((j + 1) % 4)) : Nat)) rfl ?_
              simp only [Act.put, sA9, sB9, sC9]
              refine wpList_nil ?_
              go_upto_region 21 with fail
              refine Step.wp_region_class (C := fun w' => Below wr.heap.size wr w') (by kernel_rfl) (by kernel_rfl) (Below.refl _ _).drew ?_
              refine Step.q_move rfl _ rfl (.pointer (some ⟨tb, 0, none⟩)) rfl ?_
              simp only [Act.put, sA9, sB9, sC9]
              refine Step.q_move rfl _ rfl (.int .u32 (wd (fun j => P ((j + 1) % 4)) : Nat)) rfl ?_
              simp only [Act.put, sA9, sB9, sC9]
              refine Step.q_call rfl 94 [.tmp 60, .tmp 61] _ rfl Tryz.func94 (by kernel_rfl) rfl (.int .u32 (wd (fun j => S (P ((j + 1) % 4))) : Nat)) [.pointer (some ⟨tb, 0, none⟩), .int .u32 (wd (fun j => P ((j + 1) % 4)) : Nat)] rfl (fun w' hw' => (WC.out w' hw').mono fun e w2 h => ⟨h.1, by first | exact h.2 ▸ hw' | exact hw'.trans (h.2.mono hw'.size)⟩) ?_
              simp only [Act.put, sA9, sB9, sC9]
              refine Step.q_move rfl _ rfl (.int .i64 x) rfl ?_
              simp only [Act.put, sA9, sB9, sC9]
              refine Step.q_move rfl _ rfl (.int .i64 nk) rfl ?_
              simp only [Act.put, sA9, sB9, sC9]
              refine Step.q_pure rfl (.int .i64 q) (fun w' => by unfold execOp; go_simp; rw [if_neg (by omega), IntWalk.i64_in _ (by omega)]) ?_
              simp only [Act.put, sA9, sB9, sC9]
              refine Step.q_pure rfl (.int .i64 (q - 1 : Nat)) (fun w' => by unfold execOp; go_simp; try (first | rfl | omega | exact (IntWalk.i64_in _ (by omega)).trans (by omega))) ?_
              simp only [Act.put, sA9, sB9, sC9]
              refine Still.q_idxA rfl _ 5 _ _ rfl (2) (0) rfl .i64 (q - 1) rfl hq9 Tryz.underlying135 (size := 1) (by kernel_rfl) (q - 1) (by omega) ?_
              simp only [Act.put, sA9, sB9, sC9]
              refine Step.q_load1 rfl _ _ rfl (2) (q - 1) rfl (.int .u8 (rc (q - 1) : Nat)) (fun w' hw' => (hw'.cell (p := ⟨2, q - 1, none⟩) (Frame.block_lt (hrc))).trans (hrc)) Tryz.underlying5 rfl ?_
              simp only [Act.put, sA9, sB9, sC9]
              refine Step.q_pure rfl (.int .u32 (rc (q - 1) : Nat)) (fun w' => by unfold execOp; go_simp; exact wrap32u _ (Int.natCast_nonneg _) (by omega)) ?_
              simp only [Act.put, sA9, sB9, sC9]
              refine Step.q_pure rfl (.int .u32 (rc (q - 1) * 16777216 : Nat)) (fun w' => by unfold execOp; go_simp; exact (wrap32u _ (by omega) (by omega)).trans (by omega)) ?_
              simp only [Act.put, sA9, sB9, sC9]
              refine Step.q_pure rfl (.int .u32 (wd (tB nk x P) : Nat)) (fun w' => by unfold execOp; go_simp; rw [← RF.out]; exact xor_u32 _ (rc (q - 1) * 16777216) hsl (by omega)) ?_
              simp only [Act.put, sA9, sB9, sC9]
              refine Step.q_assign rfl _ rfl (.int .u32 (wd (tB nk x P) : Nat)) rfl ?_
              simp only [Act.put, sA9, sB9, sC9]
              refine wpQuiet_nil ?_
              intro w4 hb4
              have H4 : Hid (MadeW key nk (4 * (nk + 7)) w.heap.size tb w'.heap.size w w4 f2 x) := Lib.hid ⟨H2.out.tab.below hb4, bel_arr (_B := 0) H2.out.a hb4, H2.out.bel.trans (hb4.mono H2.out.bel.size), H2.out.le, H2.out.done⟩
              replace HBK : Hid (w4.cell? ⟨w'.heap.size, x - nk, none⟩ = some (.int .u32 (U : Nat))) := Lib.hid ((hb4.cell (p := ⟨w'.heap.size, x - nk, none⟩) (Frame.block_lt HBK.out)).trans HBK.out)
              clear hb4 H2
              go_upto_region 25 with fail
              refine wp_region_lit ?_
              refine Step.p_move rfl _ rfl (.slice (some ⟨w'.heap.size, 0, none⟩) (4 * (nk + 7)) (4 * (nk + 7))) rfl ?_
              simp only [Act.put, sA9, sB9, sC9]
              refine Step.p_move rfl _ rfl (.int .i64 x) rfl ?_
              simp only [Act.put, sA9, sB9, sC9]
              refine Step.p_move rfl _ rfl (.slice (some ⟨w'.heap.size, 0, none⟩) (4 * (nk + 7)) (4 * (nk + 7))) rfl ?_
              simp only [Act.put, sA9, sB9, sC9]
              refine Step.p_move rfl _ rfl (.int .i64 x) rfl ?_
              simp only [Act.put, sA9, sB9, sC9]
              refine Step.p_move rfl _ rfl (.int .i64 nk) rfl ?_
              simp only [Act.put, sA9, sB9, sC9]
              refine Step.p_val rfl (.int .i64 (x - nk : Nat)) (by unfold execOp; go_simp; try (first | rfl | omega | exact (IntWalk.i64_in _ (by omega)).trans (by omega))) ?_
              simp only [Act.put, sA9, sB9, sC9]
              refine Step.p_index rfl _ 132 _ _ rfl w'.heap.size 0 (4 * (nk + 7)) (4 * (nk + 7)) rfl (x - nk) rfl (by omega) 1 Tryz.underlying131 (by kernel_rfl) ?_
              simp only [Act.put, sA9, sB9, sC9]
              refine Tree.p_load1 rfl _ _ rfl (w'.heap.size) (0 + (x - nk) * 1) rfl (.int .u32 (U : Nat)) (by rw [Nat.mul_one, Nat.zero_add]; exact HBK.out) Tryz.underlying132 rfl ?_
              simp only [Act.put, sA9, sB9, sC9]
              refine Step.p_move rfl _ rfl (.int .u32 (wd (tB nk x P) : Nat)) rfl ?_
              simp only [Act.put, sA9, sB9, sC9]
              refine Step.p_val rfl (.int .u32 (wd (kw nk key x) : Nat)) (by unfold execOp; go_simp; rw [← NW.out]; exact xor_u32 _ _ hul htl) ?_
              simp only [Act.put, sA9, sB9, sC9]
              refine Step.p_index rfl _ 132 _ _ rfl w'.heap.size 0 (4 * (nk + 7)) (4 * (nk + 7)) rfl x rfl (by omega) 1 Tryz.underlying131 (by kernel_rfl) ?_
              simp only [Act.put, sA9, sB9, sC9]
              refine Still.p_storeA rfl 132 _ _ rfl w'.heap.size (0 + x * 1) rfl .u32 (wd (kw nk key x) : Nat) rfl H4.out.a (by omega) (by kernel_rfl) ?_
              simp only [Act.put]
              rw [show 0 + x * 1 = x by omega]
              refine wpList_nil ?_
              go_wp2
              refine ⟨⟨x + 1, _, by omega, by omega, by go_num, ⟨H4.out.tab.set (by have := HT.out.lt; omega) _ _, H4.out.a.store x _, H4.out.bel.setCell H4.out.le _, H4.out.le, ?_⟩⟩, by simp [RowKit.intOf]; omega⟩
              intro y hy
              unfold upd
              by_cases e : y = x
              · subst e
                rw [if_pos rfl]
              · rw [if_neg e]
                exact H4.out.done y (by omega)
            · have hr0 : ¬ x % nk = 0 := by rw [hr]; exact h0
              have hri : ¬ ((r : Int) = 0) := by omega
              by_cases h8 : nk = 8 ∧ x % 8 = 4
              · have HR4 : Hid (r = 4) := Lib.hid (by
                  obtain ⟨h81, h82⟩ := h8
                  rw [h81] at hr
                  omega)
                have HN8 : Hid (nk = 8) := Lib.hid h8.1
                have AM := Lib.hid (add_mid (nk := nk) (i := x) (p := P) hr0 h8)
                have htl : wd (tB nk x P) < 4294967296 := wd_lt (tB_lt KB.out)
                have WC := Lib.hid (word_any P KB.out tb wr H2.out.tab)
                rw [AM.out] at WC
                clear h8 h0 hr0
                go_upto_region 22 with fail
                refine wp_region_lit ?_
                refine Step.p_val rfl (.bool true) (by unfold execOp; have := HR4.out; go_simp; try omega) ?_
                simp only [Act.put, sA9, sB9, sC9]
                refine Step.p_assign rfl _ rfl (.bool true) rfl ?_
                simp only [Act.put, sA9, sB9, sC9]
                refine wpList_nil ?_
                go_upto_region 23 with fail
                refine wp_region_lit ?_
                refine Step.p_move rfl _ rfl (.int .i64 nk) rfl ?_
                simp only [Act.put, sA9, sB9, sC9]
                refine Step.p_val rfl (.bool false) (by unfold execOp; have := HN8.out; go_simp; try omega) ?_
                simp only [Act.put, sA9, sB9, sC9]
                refine wpList_nil ?_
                go_upto_region 24 with fail
                refine wp_region_lit ?_
                refine Step.p_move rfl _ rfl (.pointer (some ⟨tb, 0, none⟩)) rfl ?_
                simp only [Act.put, sA9, sB9, sC9]
                refine Step.p_move rfl _ rfl (.int .u32 (wd P : Nat)) rfl ?_
                simp only [Act.put, sA9, sB9, sC9]
                refine Step.p_wp rfl (Step.w_callx 94 [.tmp 76, .tmp 77] _ rfl Tryz.func94 (by kernel_rfl) rfl [.pointer (some ⟨tb, 0, none⟩), .int .u32 (wd P : Nat)] rfl (WC.out) ?_)
                rintro e w4 ⟨rfl, hb4⟩
                refine ⟨_, rfl, ?_⟩
                simp only [Act.put, sA9, sB9, sC9]
                refine Step.p_assign rfl _ rfl (.int .u32 (wd (tB nk x P) : Nat)) rfl ?_
                simp only [Act.put, sA9, sB9, sC9]
                refine wpList_nil ?_
                have H4 : Hid (MadeW key nk (4 * (nk + 7)) w.heap.size tb w'.heap.size w w4 f2 x) := Lib.hid ⟨H2.out.tab.below hb4, bel_arr (_B := 0) H2.out.a hb4, H2.out.bel.trans (hb4.mono H2.out.bel.size), H2.out.le, H2.out.done⟩
                replace HBK : Hid (w4.cell? ⟨w'.heap.size, x - nk, none⟩ = some (.int .u32 (U : Nat))) := Lib.hid ((hb4.cell (p := ⟨w'.heap.size, x - nk, none⟩) (Frame.block_lt HBK.out)).trans HBK.out)
                clear hb4 H2
                go_upto_region 25 with fail
                refine wp_region_lit ?_
                refine Step.p_move rfl _ rfl (.slice (some ⟨w'.heap.size, 0, none⟩) (4 * (nk + 7)) (4 * (nk + 7))) rfl ?_
                simp only [Act.put, sA9, sB9, sC9]
                refine Step.p_move rfl _ rfl (.int .i64 x) rfl ?_
                simp only [Act.put, sA9, sB9, sC9]
                refine Step.p_move rfl _ rfl (.slice (some ⟨w'.heap.size, 0, none⟩) (4 * (nk + 7)) (4 * (nk + 7))) rfl ?_
                simp only [Act.put, sA9, sB9, sC9]
                refine Step.p_move rfl _ rfl (.int .i64 x) rfl ?_
                simp only [Act.put, sA9, sB9, sC9]
                refine Step.p_move rfl _ rfl (.int .i64 nk) rfl ?_
                simp only [Act.put, sA9, sB9, sC9]
                refine Step.p_val rfl (.int .i64 (x - nk : Nat)) (by unfold execOp; go_simp; try (first | rfl | omega | exact (IntWalk.i64_in _ (by omega)).trans (by omega))) ?_
                simp only [Act.put, sA9, sB9, sC9]
                refine Step.p_index rfl _ 132 _ _ rfl w'.heap.size 0 (4 * (nk + 7)) (4 * (nk + 7)) rfl (x - nk) rfl (by omega) 1 Tryz.underlying131 (by kernel_rfl) ?_
                simp only [Act.put, sA9, sB9, sC9]
                refine Tree.p_load1 rfl _ _ rfl (w'.heap.size) (0 + (x - nk) * 1) rfl (.int .u32 (U : Nat)) (by rw [Nat.mul_one, Nat.zero_add]; exact HBK.out) Tryz.underlying132 rfl ?_
                simp only [Act.put, sA9, sB9, sC9]
                refine Step.p_move rfl _ rfl (.int .u32 (wd (tB nk x P) : Nat)) rfl ?_
                simp only [Act.put, sA9, sB9, sC9]
                refine Step.p_val rfl (.int .u32 (wd (kw nk key x) : Nat)) (by unfold execOp; go_simp; rw [← NW.out]; exact xor_u32 _ _ hul htl) ?_
                simp only [Act.put, sA9, sB9, sC9]
                refine Step.p_index rfl _ 132 _ _ rfl w'.heap.size 0 (4 * (nk + 7)) (4 * (nk + 7)) rfl x rfl (by omega) 1 Tryz.underlying131 (by kernel_rfl) ?_
                simp only [Act.put, sA9, sB9, sC9]
                refine Still.p_storeA rfl 132 _ _ rfl w'.heap.size (0 + x * 1) rfl .u32 (wd (kw nk key x) : Nat) rfl H4.out.a (by omega) (by kernel_rfl) ?_
                simp only [Act.put]
                rw [show 0 + x * 1 = x by omega]
                refine wpList_nil ?_
                go_wp2
                refine ⟨⟨x + 1, _, by omega, by omega, by go_num, ⟨H4.out.tab.set (by have := HT.out.lt; omega) _ _, H4.out.a.store x _, H4.out.bel.setCell H4.out.le _, H4.out.le, ?_⟩⟩, by simp [RowKit.intOf]; omega⟩
                intro y hy
                unfold upd
                by_cases e : y = x
                · subst e
                  rw [if_pos rfl]
                · rw [if_neg e]
                  exact H4.out.done y (by omega)
              · have AP := Lib.hid (add_plain (nk := nk) (i := x) (p := P) hr0 h8)
                have htl : wd (tB nk x P) < 4294967296 := wd_lt (tB_lt KB.out)
                rw [AP.out] at *
                by_cases h4 : r = 4
                · have HR4 := Lib.hid h4
                  have HN8 : Hid (¬ nk = 8) := Lib.hid fun e => h8 ⟨e, by rw [e, h4] at hr; exact hr⟩
                  clear h4 h8 hr0 h0
                  go_upto_region 22 with fail
                  refine wp_region_lit ?_
                  refine Step.p_val rfl (.bool true) (by unfold execOp; have := HR4.out; go_simp; try omega) ?_
                  simp only [Act.put, sA9, sB9, sC9]
                  refine Step.p_assign rfl _ rfl (.bool true) rfl ?_
                  simp only [Act.put, sA9, sB9, sC9]
                  refine wpList_nil ?_
                  go_upto_region 23 with fail
                  refine wp_region_lit ?_
                  refine Step.p_move rfl _ rfl (.int .i64 nk) rfl ?_
                  simp only [Act.put, sA9, sB9, sC9]
                  refine Step.p_val rfl (.bool true) (by unfold execOp; have := HN8.out; go_simp; try omega) ?_
                  simp only [Act.put, sA9, sB9, sC9]
                  refine wpList_nil ?_
                  go_upto_region 25 with fail
                  refine wp_region_lit ?_
                  refine Step.p_move rfl _ rfl (.slice (some ⟨w'.heap.size, 0, none⟩) (4 * (nk + 7)) (4 * (nk + 7))) rfl ?_
                  simp only [Act.put, sA9, sB9, sC9]
                  refine Step.p_move rfl _ rfl (.int .i64 x) rfl ?_
                  simp only [Act.put, sA9, sB9, sC9]
                  refine Step.p_move rfl _ rfl (.slice (some ⟨w'.heap.size, 0, none⟩) (4 * (nk + 7)) (4 * (nk + 7))) rfl ?_
                  simp only [Act.put, sA9, sB9, sC9]
                  refine Step.p_move rfl _ rfl (.int .i64 x) rfl ?_
                  simp only [Act.put, sA9, sB9, sC9]
                  refine Step.p_move rfl _ rfl (.int .i64 nk) rfl ?_
                  simp only [Act.put, sA9, sB9, sC9]
                  refine Step.p_val rfl (.int .i64 (x - nk : Nat)) (by unfold execOp; go_simp; try (first | rfl | omega | exact (IntWalk.i64_in _ (by omega)).trans (by omega))) ?_
                  simp only [Act.put, sA9, sB9, sC9]
                  refine Step.p_index rfl _ 132 _ _ rfl w'.heap.size 0 (4 * (nk + 7)) (4 * (nk + 7)) rfl (x - nk) rfl (by omega) 1 Tryz.underlying131 (by kernel_rfl) ?_
                  simp only [Act.put, sA9, sB9, sC9]
                  refine Tree.p_load1 rfl _ _ rfl (w'.heap.size) (0 + (x - nk) * 1) rfl (.int .u32 (U : Nat)) (by rw [Nat.mul_one, Nat.zero_add]; exact HBK.out) Tryz.underlying132 rfl ?_
                  simp only [Act.put, sA9, sB9, sC9]
                  refine Step.p_move rfl _ rfl (.int .u32 (wd (tB nk x P) : Nat)) rfl ?_
                  simp only [Act.put, sA9, sB9, sC9]
                  refine Step.p_val rfl (.int .u32 (wd (kw nk key x) : Nat)) (by unfold execOp; go_simp; rw [← NW.out]; exact xor_u32 _ _ hul htl) ?_
                  simp only [Act.put, sA9, sB9, sC9]
                  refine Step.p_index rfl _ 132 _ _ rfl w'.heap.size 0 (4 * (nk + 7)) (4 * (nk + 7)) rfl x rfl (by omega) 1 Tryz.underlying131 (by kernel_rfl) ?_
                  simp only [Act.put, sA9, sB9, sC9]
                  refine Still.p_storeA rfl 132 _ _ rfl w'.heap.size (0 + x * 1) rfl .u32 (wd (kw nk key x) : Nat) rfl H2.out.a (by omega) (by kernel_rfl) ?_
                  simp only [Act.put]
                  rw [show 0 + x * 1 = x by omega]
                  refine wpList_nil ?_
                  go_wp2
                  refine ⟨⟨x + 1, _, by omega, by omega, by go_num, ⟨H2.out.tab.set (by have := HT.out.lt; omega) _ _, H2.out.a.store x _, H2.out.bel.setCell H2.out.le _, H2.out.le, ?_⟩⟩, by simp [RowKit.intOf]; omega⟩
                  intro y hy
                  unfold upd
                  by_cases e : y = x
                  · subst e
                    rw [if_pos rfl]
                  · rw [if_neg e]
                    exact H2.out.done y (by omega)
                · have hr4 : ¬ ((r : Int) = 4) := by omega
                  clear h8 hr0 h0
                  go_upto_region 25 with fail
                  refine wp_region_lit ?_
                  refine Step.p_move rfl _ rfl (.slice (some ⟨w'.heap.size, 0, none⟩) (4 * (nk + 7)) (4 * (nk + 7))) rfl ?_
                  simp only [Act.put, sA9, sB9, sC9]
                  refine Step.p_move rfl _ rfl (.int .i64 x) rfl ?_
                  simp only [Act.put, sA9, sB9, sC9]
                  refine Step.p_move rfl _ rfl (.slice (some ⟨w'.heap.size, 0, none⟩) (4 * (nk + 7)) (4 * (nk + 7))) rfl ?_
                  simp only [Act.put, sA9, sB9, sC9]
                  refine Step.p_move rfl _ rfl (.int .i64 x) rfl ?_
                  simp only [Act.put, sA9, sB9, sC9]
                  refine Step.p_move rfl _ rfl (.int .i64 nk) rfl ?_
                  simp only [Act.put, sA9, sB9, sC9]
                  refine Step.p_val rfl (.int .i64 (x - nk : Nat)) (by unfold execOp; go_simp; try (first | rfl | omega | exact (IntWalk.i64_in _ (by omega)).trans (by omega))) ?_
                  simp only [Act.put, sA9, sB9, sC9]
                  refine Step.p_index rfl _ 132 _ _ rfl w'.heap.size 0 (4 * (nk + 7)) (4 * (nk + 7)) rfl (x - nk) rfl (by omega) 1 Tryz.underlying131 (by kernel_rfl) ?_
                  simp only [Act.put, sA9, sB9, sC9]
                  refine Tree.p_load1 rfl _ _ rfl (w'.heap.size) (0 + (x - nk) * 1) rfl (.int .u32 (U : Nat)) (by rw [Nat.mul_one, Nat.zero_add]; exact HBK.out) Tryz.underlying132 rfl ?_
                  simp only [Act.put, sA9, sB9, sC9]
                  refine Step.p_move rfl _ rfl (.int .u32 (wd (tB nk x P) : Nat)) rfl ?_
                  simp only [Act.put, sA9, sB9, sC9]
                  refine Step.p_val rfl (.int .u32 (wd (kw nk key x) : Nat)) (by unfold execOp; go_simp; rw [← NW.out]; exact xor_u32 _ _ hul htl) ?_
                  simp only [Act.put, sA9, sB9, sC9]
                  refine Step.p_index rfl _ 132 _ _ rfl w'.heap.size 0 (4 * (nk + 7)) (4 * (nk + 7)) rfl x rfl (by omega) 1 Tryz.underlying131 (by kernel_rfl) ?_
                  simp only [Act.put, sA9, sB9, sC9]
                  refine Still.p_storeA rfl 132 _ _ rfl w'.heap.size (0 + x * 1) rfl .u32 (wd (kw nk key x) : Nat) rfl H2.out.a (by omega) (by kernel_rfl) ?_
                  simp only [Act.put]
                  rw [show 0 + x * 1 = x by omega]
                  refine wpList_nil ?_
                  go_wp2
                  refine ⟨⟨x + 1, _, by omega, by omega, by go_num, ⟨H2.out.tab.set (by have := HT.out.lt; omega) _ _, H2.out.a.store x _, H2.out.bel.setCell H2.out.le _, H2.out.le, ?_⟩⟩, by simp [RowKit.intOf]; omega⟩
                  intro y hy
                  unfold upd
                  by_cases e : y = x
                  · subst e
                    rw [if_pos rfl]
                  · rw [if_neg e]
                    exact H2.out.done y (by omega)
          · obtain rfl : x = 4 * (nk + 7) := by omega
            have IV := Lib.hid (inverted_any (rk nk key) (nk + 6) (by omega) (fun r hr => rk_byt HY.out (by omega) r hr) tb w'.heap.size wr H2.out.tab (fun r c hr hc => by
              rw [Nat.zero_add, col_rk nk key r hc, ← H2.out.done (4 * r + c) (by omega)]
              exact H2.out.a.cell (i := 4 * r + c) (by omega)))
            rw [show 4 * (nk + 6) + 4 = 4 * (nk + 7) by omega] at IV
            go_wp2_with (go_at_call 95; refine IV.out.mono ?_; rintro e w9 ⟨fb, rfl, hbk⟩)
            have HBK := Lib.hid hbk
            clear hbk
            have BA : Hid (∀ o, Below wr.heap.size wr (w9.alloc o)) := Lib.hid fun o => HBK.out.bel.alloc HBK.out.bel.size o
            go_ret2
            refine ⟨w9.heap.size, tb, w'.heap.size, wr.heap.size, rfl, ⟨?_, H2.out.tab.below (BA.out _), fun r c hr hc => ?_, fun r c hr hc => ?_⟩, H2.out.bel.trans ((BA.out _).mono H2.out.bel.size)⟩
            · rw [show 4 * (nk + 6) + 4 = 4 * (nk + 7) by omega, show ((4 * nk : Nat) : Int) = 4 * (nk : Int) by omega]
              exact heap_alloc_new w9 _
            · have e : wr.cell? ⟨w'.heap.size, 0 + (4 * r + c), none⟩ = some (.int .u32 (colW (rk nk key r) c : Nat)) := by
                rw [Nat.zero_add, col_rk nk key r hc, ← H2.out.done (4 * r + c) (by omega)]
                exact H2.out.a.cell (i := 4 * r + c) (by omega)
              exact ((BA.out _).cell (p := ⟨w'.heap.size, 0 + (4 * r + c), none⟩) (Frame.block_lt e)).trans e
            · have e := HBK.out.done (4 * r + c) (by omega)
              rw [show (4 * r + c) / 4 = r by omega, show (4 * r + c) % 4 = c by omega] at e
              rw [Nat.zero_add, ← e]
              exact (HBK.out.a.alloc _).cell (i := 4 * r + c) (by omega)
end Go.Proofs.YtmifebcaifbmoaaGreatDoor.Rj
end
