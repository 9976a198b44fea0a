/- Parts of the proof of TweakBlocks. Find2: tweak.find: a name's mode and the bytes of its key. NewLrw: tweak.New: a cipher of LRW. May: tweak: whether a sector may be asked for; a list cloned. Clone: slices.Clone at bytes. -/
import Derived.Test.YtmifebcaifbmoaaGreatDoorL00
import Derived.Test.YtmifebcaifbmoaaGreatDoorL16
import Derived.Ground.NamesProg
import Derived.Shelf.Small.Wraps
import Derived.Laws.AppendOwn
/- Find2 -/
section
namespace Go.Proofs
open Go.RowKit Go.Shelf Go.Lib

def Tryz.laysCut_ren : Go.Shelf.Ren := ⟨fun | 103 => 60 | 210 => 103 | 206 => 155 | n => n, fun | 9 => 9 | 4 => 4 | 24 => 117 | 3 => 3 | n => n, fun | n => n⟩
theorem Tryz.laysCut : Go.Proofs.Lays.n103 Tryz.prog Tryz.laysCut_ren := {
  mixed := by kernel_rfl
  f103 := Tryz.func60.trans (congrArg some (by kernel_rfl))
  f206 := Tryz.func155.trans (congrArg some (by kernel_rfl))
  f210 := Tryz.func103.trans (congrArg some (by kernel_rfl))
  t3 := Tryz.underlying3
  a3 := Tryz.isAgg3
  z3 := Tryz.sizeOf3
  v3 := Tryz.zeroValue3
  t4 := Tryz.underlying4
  a4 := Tryz.isAgg4
  z4 := Tryz.sizeOf4
  v4 := Tryz.zeroValue4
  t9 := Tryz.underlying9
  a9 := Tryz.isAgg9
  z9 := Tryz.sizeOf9
  v9 := Tryz.zeroValue9
  t24 := Tryz.underlying117
  a24 := Tryz.isAgg117
  z24 := Tryz.sizeOf117
  v24 := Tryz.zeroValue117 }

namespace YtmifebcaifbmoaaGreatDoor.Tab
theorem cut_any (s p : ByteArray) (w : World) : Calls Tryz.prog 60 #[.string s, .string p] w fun e w' => e = .returned (.tuple #[.string ⟨(Lib.trimPrefix s.data.toList p.data.toList).toArray⟩, .bool (Lib.hasPrefix s.data.toList p.data.toList)]) ∧ w' = w := Any.strings_CutPrefix Tryz.laysCut s p w
theorem cut_facts : ∀ i, i < 3 → ∀ k, k < 17 → ∀ r, r < 3 → Lib.hasPrefix (pre i ++ nm k).data.toList (pre r).data.toList = decide (i = r) ∧ Lib.trimPrefix (pre i ++ nm k).data.toList (pre r).data.toList = if i = r then (nm k).data.toList else (pre i ++ nm k).data.toList := by decide +kernel
theorem nm_facts : ∀ i, i < 3 → ∀ k, k < 17 → ∀ m, m < 17 → (nm m).data.toList ≠ (pre i ++ nm k).data.toList := by decide +kernel
theorem null_facts : ∀ i, i < 3 → ∀ k, k < 17 → (pre i ++ nm k).data.toList ≠ null.data.toList := by decide +kernel
theorem of_list (b : ByteArray) : (⟨b.data.toList.toArray⟩ : ByteArray) = b := by cases b; simp
theorem cut_spec (i k r : Nat) (hi : i < 3) (hk : k < 17) (hr : r < 3) (w : World) : Calls Tryz.prog 60 #[.string (pre i ++ nm k), .string (pre r)] w fun e w' => e = .returned (.tuple #[.string (if i = r then nm k else pre i ++ nm k), .bool (decide (i = r))]) ∧ w' = w :=
  (cut_any _ _ w).mono fun e w' ⟨h1, h2⟩ => ⟨by
    obtain ⟨a, b⟩ := cut_facts i hi k hk r hr
    rw [h1, a, b]
    split
    · rw [of_list]
    · rw [of_list], h2⟩
theorem kindL_12 (d : Nat) : ∀ k, k < 17 → (kindL d k)[1]? = some (.bool (decide (moT k < 0))) ∧ (kindL d k)[2]? = some (.int .i64 (if moT k < 0 then 0 else moT k))
  | 0, _ | 1, _ | 2, _ | 3, _ | 4, _ | 5, _ | 6, _ | 7, _ | 8, _ | 9, _ | 10, _ | 11, _ | 12, _ | 13, _ | 14, _ | 15, _ | 16, _ => ⟨rfl, rfl⟩
  | k + 17, hk => absurd hk (by omega)
set_option maxRecDepth 100000 in
set_option maxHeartbeats 4000000 in
theorem find_any (i0 k0 : Nat) (hi : i0 < 3) (hk : k0 < 17) (w : World) (hS : Sizes w) :
    Calls Tryz.prog 43 #[.string (pre i0 ++ nm k0)] w fun e w' => ∃ g d, e = .returned (.tuple #[.pointer (some ⟨g, k0 * 7, none⟩), .int .i64 (szT i0 k0)]) ∧ w.heap.size ≤ g ∧ KindsAt g d w' ∧ Below w.heap.size w w' := by
  have NF : Hid (¬ (pre i0 ++ nm k0).toList = [110, 117, 108, 108]) := Lib.hid (by rw [ByteArray.toList_eq]; exact null_facts i0 hi k0 hk)
  have CT := Lib.hid (fun r hr w => cut_spec i0 k0 r hi hk hr w)
  have NM := Lib.hid (nm_facts i0 hi k0 hk)
  have HS := Lib.hid hS
  have KD := Lib.hid (fun w => kinds_any w)
  clear hS
  generalize hspec : pre i0 ++ nm k0 = spec at *
  have HSP := Lib.hid hspec
  clear hspec
  go_enter Tryz.func43, Tryz.ntmps43
  go_upto_region 1 with fail
  refine wp_region_lit ?_
  refine Step.p_move rfl _ rfl (.string spec) rfl ?_
  simp only [Act.put, sA9, sB9, sC9]
  refine Step.p_val rfl (.bool false) (by unfold execOp; go_simp; exact NF.out) ?_
  simp only [Act.put, sA9, sB9, sC9]
  refine wpList_nil ?_
  go_upto_region 4 with (go_at_call 44; refine (KD.out _).mono ?_; rintro e w1 ⟨g, d, rfl, hg, hka, hb⟩)
  have H1 := Lib.hid hka
  have B1 := Lib.hid hb
  clear hka hb KD
  obtain ⟨gs, os, cs, q0, q1, q2, q3⟩ := (HS.out.below B1.out).h
  have Q3 := Lib.hid q3
  have q2' : cs ≤ 9223372036854775807 := q2
  clear q3 HS q2
  go_wp2
  go_loopw [18] (fun i wr => ∃ r : Nat, r ≤ i0 ∧ i = .int .i64 r ∧ Below w1.heap.size w1 wr) (fun i _ => 3 - (RowKit.intOf i).toNat)
  case atStart => exact ⟨0, by omega, rfl, Below.refl _ _⟩
  case round =>
    obtain ⟨r, hr, rfl, hb⟩ := hrel
    have HB := Lib.hid hb
    clear hb
    have hr3 : r < 3 := by omega
    obtain ⟨p0, p1⟩ := Q3.out r hr3
    have c0 := cell_below HB.out p0
    have c1 := cell_below HB.out p1
    clear p0 p1
    have CR := Lib.hid (CT.out r hr3)
    by_cases he : r = i0
    · subst he
      have CR : Hid (∀ w, Calls Tryz.prog 60 #[.string spec, .string (pre r)] w fun e w' => e = .returned (.tuple #[.string (nm k0), .bool true]) ∧ w' = w) := Lib.hid (by have := CT.out r hr3; simpa using this)
      go_upto_region 8 with (go_at_call 60; refine (CR.out _).mono ?_; rintro e w' ⟨rfl, rfl⟩)
      have XB : Hid (Below w1.heap.size w1 ((wr.alloc (.cells #[.string (pre r), .int .i64 (aesT r : Nat)] 86)).alloc (.cells #[.string (nm k0)] 9))) := Lib.hid ((HB.out.alloc HB.out.size _).alloc (by have := HB.out.size; simp; omega) _)
      have XM : Hid (((wr.alloc (.cells #[.string (pre r), .int .i64 (aesT r : Nat)] 86)).alloc (.cells #[.string (nm k0)] 9)).cell? ⟨wr.heap.size + 1, 0, none⟩ = some (.string (nm k0))) := Lib.hid (by
        have := heap_alloc_new (wr.alloc (.cells #[.string (pre r), .int .i64 (aesT r : Nat)] 86)) (.cells #[.string (nm k0)] 9)
        rw [World.size_alloc] at this
        rw [cell_of_row _ _ _ _ _ _ this]
        rfl)
      have XS : Hid (((wr.alloc (.cells #[.string (pre r), .int .i64 (aesT r : Nat)] 86)).alloc (.cells #[.string (nm k0)] 9)).cell? ⟨wr.heap.size, 1, none⟩ = some (.int .i64 (aesT r : Nat))) := Lib.hid (by
        rw [cell_of_row _ _ _ _ _ _ ((heap_alloc_old _ _ (by simp)).trans (heap_alloc_new wr _))]
        rfl)
      clear c0 c1 CR
      generalize ((wr.alloc (.cells #[.string (pre r), .int .i64 (aesT r : Nat)] 86)).alloc (.cells #[.string (nm k0)] 9)) = X at *
      have IX := Lib.hid (indexFunc_any g d (wr.heap.size + 1) k0 (nm k0) X (H1.out.below XB.out) XM.out (by omega) (fun i hi he => by have := nm_inj i (by omega) k0 hk he; omega) (fun _ => rfl))
      rw [if_pos hk] at IX
      have hk7 : k0 * 7 + 7 ≤ 119 := by omega
      go_upto_region 10 with (go_at_call 61; refine IX.out.mono ?_; rintro e w2 ⟨rfl, hb2⟩)
      have KB := Lib.hid ((H1.out.below XB.out).below hb2)
      have BB := Lib.hid (XB.out.trans (hb2.mono XB.out.size))
      have x1 := cell_below hb2 XS.out
      have y1 := KB.out.c k0 hk 1 _ (kindL_12 d k0 hk).1
      have y2 := KB.out.c k0 hk 2 _ (kindL_12 d k0 hk).2
      obtain ⟨m1, m2⟩ := moT_bd k0 hk
      have hsz : szT r k0 = if moT k0 < 0 then 2 * (16 + 8 * (r : Int)) else 16 + 8 * (r : Int) + moT k0 := rfl
      unfold aesT at x1
      clear XS XM hb2 IX
      generalize moT k0 = mo at *
      by_cases hmo : mo < 0
      all_goals
        simp only [hmo, if_true, if_false, decide_true, decide_false] at y1 y2 hsz
        have HZ := Lib.hid hsz
        clear hsz
        go_region
        go_wp2
        go_ret2
        first | exact ⟨g, by rw [HZ.out]; rfl, hg, ⟨d, KB.out.below (Below.refl _ _).drew⟩, (B1.out.trans (BB.out.mono B1.out.size)).drew⟩ | exact ⟨g, d, by rw [HZ.out]; rfl, hg, KB.out.below (Below.refl _ _).drew, (B1.out.trans (BB.out.mono B1.out.size)).drew⟩
    · have CR : Hid (∀ w, Calls Tryz.prog 60 #[.string spec, .string (pre r)] w fun e w' => e = .returned (.tuple #[.string spec, .bool false]) ∧ w' = w) := Lib.hid (by have := CT.out r hr3; rw [if_neg (by omega), decide_eq_false (by omega)] at this; exact this)
      go_upto_region 8 with (go_at_call 60; refine (CR.out _).mono ?_; rintro e w' ⟨rfl, rfl⟩)
      have XB : Hid (Below w1.heap.size w1 ((wr.alloc (.cells #[.string (pre r), .int .i64 (aesT r : Nat)] 86)).alloc (.cells #[.string spec] 9))) := Lib.hid ((HB.out.alloc HB.out.size _).alloc (by have := HB.out.size; simp; omega) _)
      have XM : Hid (((wr.alloc (.cells #[.string (pre r), .int .i64 (aesT r : Nat)] 86)).alloc (.cells #[.string spec] 9)).cell? ⟨wr.heap.size + 1, 0, none⟩ = some (.string spec)) := Lib.hid (by
        have := heap_alloc_new (wr.alloc (.cells #[.string (pre r), .int .i64 (aesT r : Nat)] 86)) (.cells #[.string spec] 9)
        rw [World.size_alloc] at this
        rw [cell_of_row _ _ _ _ _ _ this]
        rfl)
      have XS : Hid (((wr.alloc (.cells #[.string (pre r), .int .i64 (aesT r : Nat)] 86)).alloc (.cells #[.string spec] 9)).cell? ⟨wr.heap.size, 1, none⟩ = some (.int .i64 (aesT r : Nat))) := Lib.hid (by
        rw [cell_of_row _ _ _ _ _ _ ((heap_alloc_old _ _ (by simp)).trans (heap_alloc_new wr _))]
        rfl)
      clear c0 c1 CR
      generalize ((wr.alloc (.cells #[.string (pre r), .int .i64 (aesT r : Nat)] 86)).alloc (.cells #[.string spec] 9)) = X at *
      have IX := Lib.hid (indexFunc_any g d (wr.heap.size + 1) 17 spec X (H1.out.below XB.out) XM.out (by omega) (fun i hi he => NM.out i hi (by rw [he])) (fun h => absurd h (by omega)))
      rw [if_neg (by omega)] at IX
      go_wp2_with (go_at_call 61; refine IX.out.mono ?_; rintro e w2 ⟨rfl, hb2⟩)
      go_roundw
      case rel => exact ⟨r + 1, by omega, rfl, XB.out.trans (hb2.mono XB.out.size)⟩
      case measure => simp [RowKit.intOf]; omega
end YtmifebcaifbmoaaGreatDoor.Tab
end Go.Proofs
end

/- NewLrw -/
section
namespace Go.Proofs.YtmifebcaifbmoaaGreatDoor.Tw
open Go.RowKit Go.Lib Go.Proofs.YtmifebcaifbmoaaGreatDoor.Blk Go.Proofs.YtmifebcaifbmoaaGreatDoor.Aes Go.Proofs.YtmifebcaifbmoaaGreatDoor.Tab

/-- a cipher of LRW, whole -/
structure CiphLrw (key : Nat → Nat) (nk cb : Nat) (w : World) : Prop where
  h : ∃ xb gk d s u cs v, w.heap[cb]? = some (.cells #[.pointer (some ⟨xb, 0, none⟩), .pointer (some ⟨gk, 14 * 7, none⟩), s, u] 80 (0, 0)) ∧ w.heap[xb]? = some (.cells cs 96 (0, 0)) ∧ CoreAt cs v (fun i => key (4 * nk + i)) ∧ Sched key nk v w ∧ KindsAt gk d w ∧ LrwAt 106 cb s w ∧ LrwAt 109 cb u w
theorem BtwAt.below {f : FuncId} {v : Value} {w w' : World} (h : BtwAt f v w) (hb : Below w.heap.size w w') : BtwAt f v w' := by
  obtain ⟨p, h1, h2⟩ := h
  exact ⟨p, h1, cell_bel hb h2⟩
theorem LrwAt.below {f : FuncId} {cb : Nat} {v : Value} {w w' : World} (h : LrwAt f cb v w) (hb : Below w.heap.size w w') : LrwAt f cb v w' := by
  obtain ⟨x, d, u, h1, h2, h3, h4⟩ := h
  exact ⟨x, d, u, h1, cell_bel hb h2, cell_bel hb h3, h4.below hb⟩
theorem CiphLrw.below {key : Nat → Nat} {nk cb : Nat} {w w' : World} (h : CiphLrw key nk cb w) (hb : Below w.heap.size w w') : CiphLrw key nk cb w' := by
  obtain ⟨xb, gk, d, s, u, cs, v, h1, h2, h3, h4, h5, h6, h7⟩ := h
  exact ⟨xb, gk, d, s, u, cs, v, (hb.block cb (Array.getElem?_eq_some_iff.1 h1).1).trans h1, (hb.block xb (Array.getElem?_eq_some_iff.1 h2).1).trans h2, h3, h4.below hb, h5.below hb, h6.below hb, h7.below hb⟩
theorem KindsAt_lt {g d : Nat} {w : World} (h : KindsAt g d w) : g < w.heap.size ∧ d < w.heap.size :=
  ⟨Frame.block_lt (h.c 0 (by decide) 0 _ rfl), (Array.getElem?_eq_some_iff.1 h.d).1⟩
theorem KindsAt_gb {g d c : Nat} {w w' : World} (h : KindsAt g d w) (hg : w.grownBy w' (some c)) (h1 : g ≠ c) (h2 : d ≠ c) : KindsAt g d w' :=
  ⟨fun k hk i v hv => cell_gb hg h1 (h.c k hk i v hv), (hg.block d (KindsAt_lt h).2 (fun e => h2 (Option.some.inj e))).trans h.d⟩
/-- a new core -/
def coreZ (s : ByteArray) (n : Int) : Array Value := #[.string s, .int .i64 n, .pointer none, .pointer none, .int .u8 0, .int .u8 0, .int .u8 0, .int .u8 0, .int .u8 0, .int .u8 0, .int .u8 0, .int .u8 0, .int .u8 0, .int .u8 0, .int .u8 0, .int .u8 0, .int .u8 0, .int .u8 0, .int .u8 0, .int .u8 0, .int .u8 0, .int .u8 0, .int .u8 0, .int .u8 0, .int .u8 0, .int .u8 0, .int .u8 0, .int .u8 0, .int .u8 0, .int .u8 0, .int .u8 0, .int .u8 0, .int .u8 0, .int .u8 0, .int .u8 0, .int .u8 0, .bool false]
theorem KeyB.below {w w' : World} {g off n : Nat} {key : Nat → Nat} (h : KeyB w g off n key) (hb : Below w.heap.size w w') : KeyB w' g off n key := fun j hj => cell_bel hb (h j hj)

set_option maxRecDepth 100000 in
set_option maxHeartbeats 4000000 in
theorem newLrw_any (key : Nat → Nat) (i0 : Nat) (hi : i0 < 3) (hkey : Byt key (4 * (4 + 2 * i0))) (g off cap : Nat) (w : World) (hc : KeyB w g off (4 * (4 + 2 * i0) + 16) key) (hcap : 4 * (4 + 2 * i0) + 16 ≤ cap) (hcm : cap ≤ 9223372036854775807) (hR : RconAt w) (hS : Sizes w) :
    Calls Tryz.prog 23 #[.string (pre i0 ++ nm 14), .slice (some ⟨g, off, none⟩) (4 * (4 + 2 * i0) + 16) cap] w fun e w' => ∃ cb, e = .returned (.tuple #[.pointer (some ⟨cb, 0, none⟩), .int .i64 0]) ∧ CiphLrw key (4 + 2 * i0) cb w' ∧ Below w.heap.size w w' := by
  have hsz : szT i0 14 = ((4 * (4 + 2 * i0) + 16 : Nat) : Int) := by
    have : szT i0 14 = 16 + 8 * (i0 : Int) + 16 := rfl
    omega
  have FI := Lib.hid (find_any i0 14 hi (by decide) w hS)
  rw [hsz] at FI
  have hgl : g < w.heap.size := Frame.block_lt (hc 0 (by omega))
  have FP := Lib.hid (fun xb w => fieldParts_any key (4 + 2 * i0) (by omega) hkey xb g off cap (coreZ (pre i0 ++ nm 14) ((4 * (4 + 2 * i0) + 16 : Nat) : Int)) w)
  have HC := Lib.hid hc
  have HR := Lib.hid hR
  clear hc hR hS hsz hkey
  generalize 4 + 2 * i0 = nk at *
  generalize pre i0 ++ nm 14 = spec at *
  generalize hn : 4 * nk + 16 = n at *
  have HN := Lib.hid hn
  clear hn
  go_enter Tryz.func23, Tryz.ntmps23
  go_upto_region 6 with (go_at_call 43; refine FI.out.mono ?_; rintro e w2 ⟨gk, d, rfl, hg2, hka, hb⟩)
  have K2 := Lib.hid hka
  have B2 := Lib.hid hb
  obtain ⟨kl1, kl2⟩ := KindsAt_lt hka
  clear hka hb
  refine wp_region_lit ?_
  refine Step.p_move rfl _ rfl (.string spec) rfl ?_
  simp only [Act.put, sA9, sB9, sC9]
  refine Step.p_move rfl _ rfl (.slice (some ⟨g, off, none⟩) n cap) rfl ?_
  simp only [Act.put, sA9, sB9, sC9]
  refine Step.p_len rfl _ _ 5 rfl (_) (n) (cap) rfl Tryz.underlying22 ?_
  simp only [Act.put, sA9, sB9, sC9]
  refine Step.p_val rfl (.agg (coreZ spec (n : Nat))) (by unfold execOp; go_simp; rfl) ?_
  simp only [Act.put, sA9, sB9, sC9]
  refine Seg.p_boxA rfl 96 _ rfl (coreZ spec (n : Nat)) rfl ?_
  simp only [Act.put, sA9, sB9, sC9]
  refine Step.p_move rfl _ rfl (.pointer (some ⟨gk, 14 * 7, none⟩)) rfl ?_
  simp only [Act.put, sA9, sB9, sC9]
  refine Step.p_val rfl (.agg #[.pointer (some ⟨w2.heap.size, 0, none⟩), .pointer (some ⟨gk, 14 * 7, none⟩), .nilFunc, .nilFunc]) (by unfold execOp; go_simp; try rfl) ?_
  simp only [Act.put, sA9, sB9, sC9]
  refine Seg.p_boxA rfl 80 _ rfl _ rfl ?_
  simp only [Act.put, sA9, sB9, sC9]
  rw [World.size_alloc]
  refine Step.p_assign rfl _ rfl (.pointer (some ⟨w2.heap.size + 1, 0, none⟩)) rfl ?_
  simp only [Act.put, sA9, sB9, sC9]
  refine wpList_nil ?_
  have X3 : Hid (((w2.alloc (.cells (coreZ spec (n : Nat)) 96)).alloc (.cells #[.pointer (some ⟨w2.heap.size, 0, none⟩), .pointer (some ⟨gk, 14 * 7, none⟩), .nilFunc, .nilFunc] 80)).heap[w2.heap.size]? = some (.cells (coreZ spec (n : Nat)) 96 (0, 0))) := Lib.hid ((heap_alloc_old _ _ (by simp)).trans (heap_alloc_new w2 _))
  have Y3 : Hid (((w2.alloc (.cells (coreZ spec (n : Nat)) 96)).alloc (.cells #[.pointer (some ⟨w2.heap.size, 0, none⟩), .pointer (some ⟨gk, 14 * 7, none⟩), .nilFunc, .nilFunc] 80)).heap[w2.heap.size + 1]? = some (.cells #[.pointer (some ⟨w2.heap.size, 0, none⟩), .pointer (some ⟨gk, 14 * 7, none⟩), .nilFunc, .nilFunc] 80 (0, 0))) := Lib.hid (by
    have := heap_alloc_new (w2.alloc (.cells (coreZ spec (n : Nat)) 96)) (.cells #[.pointer (some ⟨w2.heap.size, 0, none⟩), .pointer (some ⟨gk, 14 * 7, none⟩), .nilFunc, .nilFunc] 80)
    rwa [World.size_alloc] at this)
  have B3 : Hid (Below w2.heap.size w2 ((w2.alloc (.cells (coreZ spec (n : Nat)) 96)).alloc (.cells #[.pointer (some ⟨w2.heap.size, 0, none⟩), .pointer (some ⟨gk, 14 * 7, none⟩), .nilFunc, .nilFunc] 80))) := Lib.hid (((Below.refl _ _).alloc (Nat.le_refl _) _).alloc (by simp) _)
  generalize ((w2.alloc (.cells (coreZ spec (n : Nat)) 96)).alloc (.cells #[.pointer (some ⟨w2.heap.size, 0, none⟩), .pointer (some ⟨gk, 14 * 7, none⟩), .nilFunc, .nilFunc] 80)) = w3 at *
  have hs2 := B2.out.size
  have K3 := Lib.hid (K2.out.below B3.out)
  have BB3 := Lib.hid (B2.out.trans (B3.out.mono B2.out.size))
  go_upto_region 7 with fail
  refine wp_region_still_tail 9 (by kernel_rfl) (by kernel_rfl) ?_
  refine Still.s_move rfl _ rfl (.pointer (some ⟨gk, 14 * 7, none⟩)) rfl ?_
  simp only [Act.put, sA9, sB9, sC9]
  refine Still.s_val rfl (.pointer (some ⟨gk, 14 * 7, none⟩)) (by unfold execOp; go_simp) ?_
  simp only [Act.put, sA9, sB9, sC9]
  refine Still.s_val rfl (.pointer (some ⟨gk, 14 * 7 + 5, none⟩)) (by unfold execOp; simp only [Sem.run_bind, Sem.run_pure]; rfl) ?_
  simp only [Act.put, sA9, sB9, sC9]
  refine Still.s_load1 rfl _ _ rfl (gk) (14 * 7 + 5) rfl (fv 83) (K3.out.c 14 (by decide) 5 _ rfl) Tryz.underlying91 rfl ?_
  simp only [Act.put, sA9, sB9, sC9]
  refine Still.s_move rfl _ rfl (.pointer (some ⟨w2.heap.size + 1, 0, none⟩)) rfl ?_
  simp only [Act.put, sA9, sB9, sC9]
  refine Still.s_val rfl (.pointer (some ⟨w2.heap.size + 1, 0, none⟩)) (by unfold execOp; go_simp) ?_
  simp only [Act.put, sA9, sB9, sC9]
  refine Still.s_val rfl (.pointer (some ⟨w2.heap.size + 1, 0, none⟩)) (by unfold execOp; simp only [Sem.run_bind, Sem.run_pure]; rfl) ?_
  simp only [Act.put, sA9, sB9, sC9]
  refine Still.s_load1 rfl _ _ rfl (w2.heap.size + 1) (0) rfl (.pointer (some ⟨w2.heap.size, 0, none⟩)) (by show w3.cell? _ = _; rw [cell_of_row w3 _ _ _ _ _ Y3.out]; rfl) Tryz.underlying76 rfl ?_
  simp only [Act.put, sA9, sB9, sC9]
  refine Still.s_move rfl _ rfl (.slice (some ⟨g, off, none⟩) n cap) rfl ?_
  simp only [Act.put, sA9, sB9, sC9]
  refine wpStill_nil ?_
  simp only [List.drop]
  refine Step.p_wp rfl (Step.w_callv _ _ _ rfl 83 [] rfl Tryz.func83 (by kernel_rfl) rfl [.pointer (some ⟨w2.heap.size, 0, none⟩), .slice (some ⟨g, off, none⟩) n cap] rfl (FP.out w2.heap.size w3.drew X3.out rfl ⟨_, rfl⟩ rfl (HC.out.below BB3.out.drew) (by omega) (by omega) hcm (HR.out.below BB3.out.drew)) ?_)
  rintro e w4 ⟨rfl, cs4, v4, h4c, h4a, h4s, h4g⟩
  refine ⟨_, rfl, ?_⟩
  simp only [Act.put, sA9, sB9, sC9]
  refine wpList_nil ?_
  have C4 := Lib.hid h4c
  have A4 := Lib.hid h4a
  have S4 := Lib.hid h4s
  have G4 : Hid (w3.grownBy w4 (some w2.heap.size)) := Lib.hid ⟨h4g.os, h4g.tape, h4g.output, h4g.size, h4g.block⟩
  clear h4c h4a h4s h4g
  have hl3 : w2.heap.size + 1 < w3.heap.size := (Array.getElem?_eq_some_iff.1 Y3.out).1
  have Y4 := Lib.hid ((G4.out.block (w2.heap.size + 1) hl3 (by simp)).trans Y3.out)
  have K4 := Lib.hid (KindsAt_gb K3.out G4.out (by omega) (by omega))
  have B4 := Lib.hid (BB3.out.grown G4.out BB3.out.size (fun j hj => by cases hj; exact hs2))
  clear K3 BB3 B3 X3 Y3 FP FI
  go_upto_region 8 with fail
  refine wp_region_lit ?_
  refine Step.p_move rfl _ rfl (.pointer (some ⟨gk, 14 * 7, none⟩)) rfl ?_
  simp only [Act.put, sA9, sB9, sC9]
  refine Step.p_val rfl (.pointer (some ⟨gk, 14 * 7, none⟩)) (by unfold execOp; go_simp) ?_
  simp only [Act.put, sA9, sB9, sC9]
  refine Tree.p_field rfl _ _ _ rfl (gk) (14 * 7) rfl Tryz.underlying93 rfl (sz := 1) (by kernel_rfl) (by decide) (14 * 7 + 4) rfl ?_
  simp only [Act.put, sA9, sB9, sC9]
  refine Tree.p_load1 rfl _ _ rfl (gk) (14 * 7 + 4) rfl (fv 82) (K4.out.c 14 (by decide) 4 _ rfl) Tryz.underlying90 rfl ?_
  simp only [Act.put, sA9, sB9, sC9]
  refine Step.p_move rfl _ rfl (.pointer (some ⟨w2.heap.size + 1, 0, none⟩)) rfl ?_
  simp only [Act.put, sA9, sB9, sC9]
  refine Step.p_wp rfl (Step.w_callv _ _ _ rfl 82 [] rfl Tryz.func82 (by kernel_rfl) rfl [.pointer (some ⟨w2.heap.size + 1, 0, none⟩)] rfl (asLRW_any (w2.heap.size + 1) _ _ w4 Y4.out) ?_)
  rintro e w5 ⟨rfl, s5, u5, h5c, h5s, h5u, h5g⟩
  refine ⟨_, rfl, ?_⟩
  simp only [Act.put, sA9, sB9, sC9]
  refine wpList_nil ?_
  have hl4 : w2.heap.size < w4.heap.size := (Array.getElem?_eq_some_iff.1 C4.out).1
  have C5 := (h5g.block w2.heap.size hl4 (by simp)).trans C4.out
  have S5 := S4.out.grown Y4.out (by decide) (by decide) rfl (fun x e => by cases e) h5g
  have K5 := KindsAt_gb K4.out h5g (by omega) (by omega)
  have B5 := B4.out.grown h5g B4.out.size (fun j hj => by cases hj; omega)
  have HF : Hid (CiphLrw key nk (w2.heap.size + 1) w5 ∧ Below w.heap.size w w5) := Lib.hid ⟨⟨_, gk, d, s5, u5, cs4, v4, h5c, C5, A4.out, S5, K5, h5s, h5u⟩, B5⟩
  clear h5c h5s h5u h5g C5 S5 K5 B5
  go_wp2
  go_ret2
  exact ⟨_, rfl, HF.out⟩
end Go.Proofs.YtmifebcaifbmoaaGreatDoor.Tw
end

/- May -/
section
namespace Go.Proofs.YtmifebcaifbmoaaGreatDoor.Tw
open Go.RowKit Go.Lib Go.Proofs.YtmifebcaifbmoaaGreatDoor.Blk Go.Proofs.YtmifebcaifbmoaaGreatDoor.Aes Go.Proofs.YtmifebcaifbmoaaGreatDoor.Tab Go.Proofs.YtmifebcaifbmoaaGreatDoor.Byts Go.Proofs.YtmifebcaifbmoaaGreatDoor.Push

theorem none_any (cb xb : Nat) (w : World) (h : w.cell? ⟨cb, 0, none⟩ = some (.pointer (some ⟨xb, 0, none⟩))) : Calls Tryz.prog 49 #[.pointer (some ⟨cb, 0, none⟩)] w fun e w' => e = .returned (.bool false) ∧ w = w' := by
  go_enter Tryz.func49, Tryz.ntmps49
  go_wp2
  go_ret
  exact ⟨rfl, rfl⟩
set_option maxRecDepth 100000 in
set_option maxHeartbeats 2000000 in
theorem may_any (cb xb gk ko n : Nat) (loose : Bool) (w : World) (h1 : w.cell? ⟨cb, 0, none⟩ = some (.pointer (some ⟨xb, 0, none⟩))) (h2 : w.cell? ⟨xb, 36, none⟩ = some (.bool false)) (h3 : w.cell? ⟨cb, 1, none⟩ = some (.pointer (some ⟨gk, ko, none⟩))) (h4 : w.cell? ⟨gk, ko + 6, none⟩ = some (.bool loose)) (hn : 16 ≤ n) (hn2 : n ≤ 4096) (hl : loose = true ∨ n % 16 = 0) :
    Calls Tryz.prog 40 #[.pointer (some ⟨cb, 0, none⟩), .int .i64 n] w fun e w' => e = .returned (.int .i64 0) ∧ w = w' := by
  have NO := Lib.hid (none_any cb xb w h1)
  cases loose with
  | true =>
    clear hl
    go_enter Tryz.func40, Tryz.ntmps40
    go_wp2_with (go_at_call 49; refine NO.out.mono ?_; rintro e w' ⟨rfl, rfl⟩)
    go_ret
    exact ⟨rfl, rfl⟩
  | false =>
    have hl : n % 16 = 0 := hl.resolve_left (by decide)
    have hli : (n : Int) % 16 = 0 := by omega
    have hl1 : ¬ (n : Int) < 16 := by omega
    have hl2 : ¬ 4096 < (n : Int) := by omega
    clear hl
    go_enter Tryz.func40, Tryz.ntmps40
    go_wp2_with (go_at_call 49; refine NO.out.mono ?_; rintro e w' ⟨rfl, rfl⟩)
    go_ret
    exact ⟨rfl, rfl⟩
end Go.Proofs.YtmifebcaifbmoaaGreatDoor.Tw
end

/- Clone -/
section
namespace Go.Proofs.YtmifebcaifbmoaaGreatDoor.Tw
open Go.RowKit Go.Lib Go.Proofs.YtmifebcaifbmoaaGreatDoor.Blk Go.Proofs.YtmifebcaifbmoaaGreatDoor.Byts Go.Proofs.YtmifebcaifbmoaaGreatDoor.Push

theorem sec_of {w : World} {B g n c : Nat} {F : Nat → Nat} (h : w.ownsRow B 5 1 (.slice (some ⟨g, 0, none⟩) n c) n (bl F n)) : Sec w g n F ∧ B ≤ g ∧ n ≤ c ∧ c ≤ 9223372036854775807 := by
  have hcell := fun j hj => h.cellAt j hj
  rcases h.2 with ⟨e, _⟩ | ⟨g', c', cur, e, h1, hg, n1, m1, hs, _⟩
  · cases e
  · cases e
    refine ⟨⟨cur, hg, by omega, fun i hi => ?_⟩, h1, n1, m1⟩
    have := (hcell i (by omega)).trans (bl_get F n i hi)
    rwa [cell_of_row w g i _ _ _ hg] at this

set_option maxRecDepth 100000 in
set_option maxHeartbeats 2000000 in
theorem clone_any (b off n c : Nat) (F : Nat → Nat) (w : World) (hn : 0 < n) (hbig : n ≤ 140737488347136) (h : BL w (some ⟨b, off, none⟩) n F) :
    Calls Tryz.prog 41 #[.slice (some ⟨b, off, none⟩) n c] w fun e w' => ∃ g cap, e = .returned (.slice (some ⟨g, 0, none⟩) n cap) ∧ Sec w' g n F ∧ w.heap.size ≤ g ∧ n ≤ cap ∧ cap ≤ 9223372036854775807 ∧ Below w.heap.size w w' := by
  obtain ⟨i0, hi, hz0, hz1, hz2⟩ := u8_info
  have hnil := fun (a : Option Addr) (n c : Nat) (w : World) => Lib.run_eql_slice_nil (P := Tryz.prog) w 22 5 a n c 0 0 Tryz.underlying22
  have A := Lib.hid h
  clear h
  go_enter Tryz.func41, Tryz.ntmps41
  go_wp2_with (at_builtin; refine wpList_append_own _ rfl _ _ 22 rfl w.heap.size 5 i0 (.int .u8 0) 1 1 Tryz.underlying22 hi hz0 hz1 hz2 rfl (by decide) _ _ _ rfl (World.ownsRow_made w #[] 0 (Nat.le_refl _) (Nat.zero_le _) rfl) ⟨b, off, none⟩ n c (bl F n) rfl ?qc1 ?qc2 ?qc3 ?qc4 ?qc5 ?qc6 ?_)
  case qc1 => rw [bl_len]; omega
  case qc2 =>
    intro j u hj
    have hjn : j < n := by
      have := (List.getElem?_eq_some_iff.1 hj).1
      rwa [bl_len] at this
    obtain ⟨g', o', e, hc⟩ := A.out j hjn
    cases e
    rw [Addr.add_lit]
    refine Lib.cell?_alloc_some _ ?_
    rw [hc, ← hj, bl_get _ _ _ hjn]
  case qc3 =>
    intro u hu
    simp only [bl, List.mem_map] at hu
    obtain ⟨x, _, rfl⟩ := hu
    rfl
  case qc4 => unfold maxLen; omega
  case qc5 => omega
  case qc6 => simp
  intro v' w1 hown hgrow hnn
  try simp only [Nat.zero_add, List.nil_append] at hown
  have HO := Lib.hid hown
  have HB := Lib.hid (((Below.refl _ w).alloc (Nat.le_refl _) _).grown hgrow (by simp) (by intro k hk; simp [Value.ownBlock] at hk; omega))
  clear hown hgrow hnn
  rcases HO.out.2 with ⟨_, h'⟩ | ⟨g, cap, cur, rfl, _⟩
  · omega
  obtain ⟨s1, s2, s3, s4⟩ := sec_of HO.out
  have S1 := Lib.hid s1
  clear s1
  go_wp2
  go_ret
  exact ⟨g, cap, rfl, S1.out, s2, s3, s4, HB.out⟩
end Go.Proofs.YtmifebcaifbmoaaGreatDoor.Tw
end
