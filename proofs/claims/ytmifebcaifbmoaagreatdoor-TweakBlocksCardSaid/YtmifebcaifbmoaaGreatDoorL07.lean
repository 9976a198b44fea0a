/- Parts of the proof of TweakBlocks. Rj13: rijndael: a key as it lies; the schedule that it hands out. Rj14: rijndael: Encrypt and Decrypt. Rj15: rijndael: the word that the way back's schedule makes of a word. -/
import Derived.Test.YtmifebcaifbmoaaGreatDoorL00
import Derived.Test.YtmifebcaifbmoaaGreatDoorL06
import Derived.WalkKit
import Derived.WalkSpells
import Derived.Laws.ResultCell
/- Rj13 -/
section
namespace Go.Proofs.YtmifebcaifbmoaaGreatDoor.Rj
open Go.RowKit Go.Lib Go.Proofs.YtmifebcaifbmoaaGreatDoor.Blk Go.Proofs.YtmifebcaifbmoaaGreatDoor.Aes Go.Proofs.YtmifebcaifbmoaaGreatDoor.Seg
open Go.RowKit (wrap32)
open Go.RwLone (rlock_open runlock_deferred)

/-- what is set and set back -/
theorem set_back {w : World} {b i : Nat} {cs : Array Value} {t : TypeId} (hg : w.heap[b]? = some (.cells cs t (0, 0))) (u : Value) {v : Value} (hv : cs[i]? = some v) : (w.setCell ⟨b, i, none⟩ u).setCell ⟨b, i, none⟩ v = w := by
  have h1 := heap_setCell_same w b i cs t u hg
  have h2 := heap_setCell_same _ b i _ t v h1
  have e : (cs.setIfInBounds i u).setIfInBounds i v = cs := by
    refine Array.ext_getElem? fun k => ?_
    by_cases hk : i = k
    · subst hk
      have hl := (Array.getElem?_eq_some_iff.1 hv).1
      rw [Array.getElem?_setIfInBounds_self_of_lt (by simpa using hl), hv]
    · rw [Array.getElem?_setIfInBounds_ne hk, Array.getElem?_setIfInBounds_ne hk]
  rw [e] at h2
  have hh : ((w.setCell ⟨b, i, none⟩ u).setCell ⟨b, i, none⟩ v).heap = w.heap := by
    refine Array.ext_getElem? fun k => ?_
    by_cases hk : k = b
    · subst hk; exact h2.trans hg.symm
    · simp [World.setCell, Array.getElem?_modify, Ne.symm hk]
  show { w with heap := _ } = w
  have : ((w.setCell ⟨b, i, none⟩ u).setCell ⟨b, i, none⟩ v) = { w with heap := ((w.setCell ⟨b, i, none⟩ u).setCell ⟨b, i, none⟩ v).heap } := rfl
  exact this.trans (by rw [hh])

/-- a key's cells: an open lock, the size, the tables, both schedules -/
def keyC (size : Int) (tb wb bb n : Nat) : Array Value := #[.int .i32 0, .int .u32 0, .int .u32 0, .int .u32 0, .int .i32 0, .int .i32 0, .int .i64 size, .pointer (some ⟨tb, 0, none⟩), .slice (some ⟨wb, 0, none⟩) n n, .slice (some ⟨bb, 0, none⟩) n n]

set_option maxRecDepth 100000 in
set_option maxHeartbeats 4000000 in
theorem schedule_any (size : Int) (tb wb bb n : Nat) (kb : Nat) (b : Bool) (w : World) (hk : w.heap[kb]? = some (.cells (keyC size tb wb bb n) 149 (0, 0))) :
    Calls Tryz.prog 96 #[.pointer (some ⟨kb, 0, none⟩), .bool b] w
      fun e w' => e = .returned (.tuple #[.slice (some ⟨if b then bb else wb, 0, none⟩) n n, .int .i64 0]) ∧ w' = w := by
  have c0 : w.cell? ⟨kb, 0, none⟩ = some (.int .i32 0) := by rw [cell_of_row w kb 0 _ _ _ hk]; rfl
  have c2 : w.cell? ⟨kb, 0 + 2, none⟩ = some (.int .u32 0) := by rw [cell_of_row w kb _ _ _ _ hk]; rfl
  have c3 : w.cell? ⟨kb, 0 + 3, none⟩ = some (.int .u32 0) := by rw [cell_of_row w kb _ _ _ _ hk]; rfl
  have c4 : w.cell? ⟨kb, 0 + 4, none⟩ = some (.int .i32 0) := by rw [cell_of_row w kb _ _ _ _ hk]; rfl
  have c8 : w.cell? ⟨kb, 8, none⟩ = some (.slice (some ⟨wb, 0, none⟩) n n) := by rw [cell_of_row w kb _ _ _ _ hk]; rfl
  have c9 : w.cell? ⟨kb, 9, none⟩ = some (.slice (some ⟨bb, 0, none⟩) n n) := by rw [cell_of_row w kb _ _ _ _ hk]; rfl
  have hz : w.frozen? ⟨kb, 0 + 4, none⟩ = false := by simp [World.frozen?, hk]
  have d8 : (w.setCell ⟨kb, 4, none⟩ (.int .i32 1)).cell? ⟨kb, 8, none⟩ = some (.slice (some ⟨wb, 0, none⟩) n n) := (World.cell?_setCell_other _ ⟨kb, 4, none⟩ ⟨kb, 8, none⟩ _ (by simp)).trans c8
  have d9 : (w.setCell ⟨kb, 4, none⟩ (.int .i32 1)).cell? ⟨kb, 9, none⟩ = some (.slice (some ⟨bb, 0, none⟩) n n) := (World.cell?_setCell_other _ ⟨kb, 4, none⟩ ⟨kb, 9, none⟩ _ (by simp)).trans c9
  have SB := Lib.hid (set_back hk (.int .i32 1) (i := 4) (v := .int .i32 0) rfl)
  have HK := Lib.hid hk
  have W1 : wrap32 (0 + 1) = 1 := by unfold wrap32; rfl
  have W0 : wrap32 (1 + -1) = 0 := by unfold wrap32; rfl
  have O1 := rlock_open rwRLib kb 0 0 _ _ w c0 c3 c4 hz (by rw [W1]; decide)
  rw [W1] at O1
  replace O1 := Lib.hid O1
  have O2 := (runlock_deferred rwRLib kb 0 1 (.int .i32 0) (.int .u32 0) .returning (w.setCell ⟨kb, 4, none⟩ (.int .i32 1)) ((World.cell?_setCell_other _ ⟨kb, 4, none⟩ ⟨kb, 0, none⟩ _ (by simp)).trans c0) ((World.cell?_setCell_other _ ⟨kb, 4, none⟩ ⟨kb, 0 + 2, none⟩ _ (by simp)).trans c2) (World.cell?_setCell_same w _ _ c4) (by simpa using hz) (by rw [W0]; decide))
  rw [W0] at O2
  replace O2 := Lib.hid O2
  have hnil := fun (a : Option Addr) (n c : Nat) (w : World) => Lib.run_eql_slice_nil (P := Tryz.prog) w 131 132 a n c 0 0 Tryz.underlying131
  clear hk c0 c2 c3 c4 c8 c9 hz
  cases b
  all_goals
    go_enter_defers Tryz.func96, Tryz.ntmps96
    go_wp2_with (go_at_call 148; refine O1.out.mono ?_; rintro e w' ⟨rfl, rfl⟩)
    refine leaves_cons (f := 149) (args := #[.pointer (some ⟨kb, 0, none⟩)]) (by simp) (by simp [go_sem]) ?_
    refine O2.out.mono ?_
    rintro e u' w'' ⟨rfl, rfl, rfl⟩
    exact ⟨_, results_tmp2 rfl _ _ _, rfl, SB.out⟩
end Go.Proofs.YtmifebcaifbmoaaGreatDoor.Rj
end

/- Rj14 -/
section
namespace Go.Proofs.YtmifebcaifbmoaaGreatDoor.Rj
open Go.RowKit Go.Lib Go.Proofs.YtmifebcaifbmoaaGreatDoor.Blk Go.Proofs.YtmifebcaifbmoaaGreatDoor.Aes Go.Proofs.YtmifebcaifbmoaaGreatDoor.Seg

structure KeyAt (size : Int) (k : Nat → Nat → Nat) (nr tb wb bb kb : Nat) (w : World) : Prop where
  c : w.heap[kb]? = some (.cells (keyC size tb wb bb (4 * nr + 4)) 149 (0, 0))
  t : TabAt w tb
  ws : ∀ r c, r ≤ nr → c < 4 → w.cell? ⟨wb, 0 + (4 * r + c), none⟩ = some (.int .u32 (colW (k r) c : Nat))
  bs : ∀ r c, r ≤ nr → c < 4 → w.cell? ⟨bb, 0 + (4 * r + c), none⟩ = some (.int .u32 (colW (backK k nr r) c : Nat))
theorem KeyAt.below {size : Int} {k : Nat → Nat → Nat} {nr tb wb bb kb : Nat} {w w' : World} (h : KeyAt size k nr tb wb bb kb w) (hb : Below w.heap.size w w') : KeyAt size k nr tb wb bb kb w' :=
  ⟨(hb.block kb (Array.getElem?_eq_some_iff.1 h.c).1).trans h.c, h.t.below hb, fun r c hr hc => (hb.cell (p := ⟨wb, 0 + (4 * r + c), none⟩) (Frame.block_lt (h.ws r c hr hc))).trans (h.ws r c hr hc), fun r c hr hc => (hb.cell (p := ⟨bb, 0 + (4 * r + c), none⟩) (Frame.block_lt (h.bs r c hr hc))).trans (h.bs r c hr hc)⟩
theorem KeyAt.t7 {size : Int} {k : Nat → Nat → Nat} {nr tb wb bb kb : Nat} {w : World} (h : KeyAt size k nr tb wb bb kb w) : w.cell? ⟨kb, 7, none⟩ = some (.pointer (some ⟨tb, 0, none⟩)) := by rw [cell_of_row w kb _ _ _ _ h.c]; rfl

theorem ret_row_tmp {P : Program} {fn : Func} {p u : Tmp} {ty : TypeId} {a : Act} {w : World} {R : Ending → World → Prop} {b : Nat} {k : IntKind} {n : Nat} {t : TypeId} {f : Nat → Int} {d : TypeDesc} (h : fn.results = #[.cell p ty, .tmp u])
    (hp : a.tmps.getD p undef = .pointer (some ⟨b, 0, none⟩)) (hA : Arr w b k n t f) (hu : P.underlying ty = some d) (hd : (match d with | .struct _ | .array _ _ => true | _ => false) = true)
    (hi : (P.info? ty).map (·.size) = some n) (hdf : a.defers = []) {v : Value} (hv : a.tmps.getD u undef = v) (hR : R (.returned (.tuple #[.agg (arr k n f), v])) w) : bodyPost P fn R .ret a w := by
  subst hv
  refine bodyPost_ret (v := .tuple #[.agg (arr k n f), a.tmps.getD u undef]) ?_ hdf hR
  have hp' : (asAddr (a.tmps.getD p undef)).run P w = .ok ⟨b, 0, none⟩ w := by rw [hp]; rfl
  rw [results_cell_tmp h, hp']
  simp only [Result.andThen_ok, run_loadVar_row w b t ty _ _ d hA hu hd (by rw [arr_size]; exact hi)]

set_option maxRecDepth 100000 in
set_option maxHeartbeats 8000000 in
theorem encryptKey_any (size : Int) (k : Nat → Nat → Nat) (nr : Nat) (h1 : 1 ≤ nr) (h14 : nr ≤ 14) (hk : ∀ r, r ≤ nr → Byt (k r) 16) (st : Nat → Nat) (hs : Byt st 16) (tb wb bb kb : Nat) (w : World) (hK : KeyAt size k nr tb wb bb kb w) :
    Calls Tryz.prog 52 #[.pointer (some ⟨kb, 0, none⟩), .agg (arr .u8 16 fun i => (st i : Nat))] w
      fun e w' => e = .returned (.tuple #[.agg (arr .u8 16 fun i => (thrB mE S 1 k nr st i : Nat)), .int .i64 0]) ∧ Below w.heap.size w w' := by
  have z16 : (Tryz.prog.info? 27).bind (·.zero) = some (.agg (arr .u8 16 fun _ => 0)) := by kernel_rfl
  have HK := Lib.hid hK
  have SC := Lib.hid (fun w (h : KeyAt size k nr tb wb bb kb w) => schedule_any size tb wb bb (4 * nr + 4) kb false w h.c)
  have EN := Lib.hid (fun w (h : KeyAt size k nr tb wb bb kb w) => encrypt_any k nr h1 h14 hk st hs tb wb 0 (4 * nr + 4) w h.t h.ws)
  clear hK hk hs
  go_enter Tryz.func52, Tryz.ntmps52
  go_upto_region 0 with fail
  refine wp_region_lit ?_
  refine New.p_box rfl 27 _ rfl .u8 16 (fun i => ((st i : Nat) : Int)) rfl ?_
  intro w1 a1 g1 s1
  simp only [Act.put, sA9, sB9, sC9]
  refine New.p_newarr rfl 27 rfl .u8 16 z16 ?_
  intro w2 a2 g2 s2
  simp only [Act.put, sA9, sB9, sC9]
  refine Step.p_assign rfl _ rfl (.int .i64 0) rfl ?_
  refine wpList_nil ?_
  simp only [Act.put, sA9, sB9, sC9]
  rw [s1] at a2 s2 ⊢
  have E2 : Hid (EcW (fun i => ((st i : Nat) : Int)) (fun _ => 0) w.heap.size w w2) := Lib.hid ⟨bel_arr (_B := 0) a1 (bel_of_gb (_B := 0) g2), a2, ((Below.refl w.heap.size w).grown g1 (Nat.le_refl _) (by simp)).grown g2 (by omega) (by simp)⟩
  clear a1 g1 s1 a2 g2 s2
  go_wp2_with (go_at_call 96; refine (SC.out _ (HK.out.below E2.out.bel)).mono ?_; rintro e w' ⟨rfl, rfl⟩)
  refine Step.begin_ (S := fun w' => EcA (fun i => ((st i : Nat) : Int)) w.heap.size w w') 9 rfl (by kernel_rfl) E2.out.drew.toA ?_
  intro hS
  have SX := Lib.hid hS
  have S2 := Lib.hid E2.out.drew
  clear hS
  refine Step.t_move (i := 0) rfl rfl (by kernel_rfl) (by kernel_rfl) (by kernel_rfl) SX.out _ rfl _ rfl ?_
  simp only [Act.put, sA9, sB9, sC9]
  refine Step.t_val (i := 1) rfl rfl (by kernel_rfl) (by kernel_rfl) (by kernel_rfl) SX.out (.pointer (some ⟨kb, 0, none⟩)) (fun w _ => by rfl) ?_
  simp only [Act.put, sA9, sB9, sC9]
  refine Tree.t_field (i := 2) rfl rfl (by kernel_rfl) (by kernel_rfl) (by kernel_rfl) SX.out _ _ _ rfl kb 0 rfl Tryz.underlying149 rfl (sz := 1) (by kernel_rfl) (by decide) 7 rfl ?_
  simp only [Act.put, sA9, sB9, sC9]
  refine Tree.t_load1 (i := 3) rfl rfl (by kernel_rfl) (by kernel_rfl) (by kernel_rfl) SX.out _ _ rfl kb 7 rfl (.pointer (some ⟨tb, 0, none⟩)) (fun w' hw' => (HK.out.below hw'.bel).t7) Tryz.underlying129 rfl ?_
  simp only [Act.put, sA9, sB9, sC9]
  refine Step.t_move (i := 4) rfl rfl (by kernel_rfl) (by kernel_rfl) (by kernel_rfl) SX.out _ rfl _ rfl ?_
  simp only [Act.put, sA9, sB9, sC9]
  refine Step.t_load (i := 5) rfl rfl (by kernel_rfl) (by kernel_rfl) (by kernel_rfl) SX.out _ _ rfl _ rfl (fun w' hw' => hw'.a) Tryz.underlying27 rfl info16 ?_
  simp only [Act.put, sA9, sB9, sC9]
  refine Step.t_one (i := 6) rfl rfl (by kernel_rfl) ?_
  refine Step.w_callx 97 _ _ rfl Tryz.func97 (by kernel_rfl) rfl _ rfl (EN.out _ (HK.out.below SX.out.bel)) ?_
  rintro e w3 ⟨rfl, hb3⟩
  refine ⟨_, rfl, (S2.out.next hb3 S2.out.le).toA, ?_⟩
  have S3 := Lib.hid (S2.out.next hb3 S2.out.le)
  clear hb3
  simp only [Act.put, sA9, sB9, sC9]
  refine Step.t_one (i := 7) rfl rfl (by kernel_rfl) ?_
  refine wp_store_row 27 _ _ rfl (w.heap.size + 1) _ rfl rfl _ _ S3.out.z (by rw [arr_size]; exact info16) (by rw [arr_size, arr_size]) (arr_one _ _ _) ?_
  have hA := Arr_of_row (f := fun i => (((thrB mE S 1 k nr st i : Nat) : Nat) : Int)) S3.out.z
  have hG := gb_setRow w3 (w.heap.size + 1) (arr .u8 16 fun i => (((thrB mE S 1 k nr st i : Nat) : Nat) : Int))
  generalize w3.setRow (w.heap.size + 1) (arr .u8 16 fun i => (((thrB mE S 1 k nr st i : Nat) : Nat) : Int)) = w6 at *
  have BL := Lib.hid (S3.out.bel.grown hG S3.out.le (fun j hj => by cases hj; exact Nat.le_succ _))
  have S6 : EcA (fun i => ((st i : Nat) : Int)) w.heap.size w w6 := ⟨S3.out.a.grown hG (by omega), BL.out⟩
  refine ⟨S6, ?_⟩
  simp only [Act.put]
  refine Step.t_assign (i := 8) rfl rfl (by kernel_rfl) (by kernel_rfl) (by kernel_rfl) S6 _ rfl (.int .i64 0) rfl ?_
  simp only [Act.put, sA9, sB9, sC9]
  refine Step.t_end (by kernel_rfl) ?_
  clear hG
  go_wp2
  exact ret_row_tmp rfl rfl hA Tryz.underlying27 rfl info16 rfl rfl ⟨rfl, BL.out⟩

set_option maxRecDepth 100000 in
set_option maxHeartbeats 8000000 in
theorem decryptKey_any (size : Int) (k : Nat → Nat → Nat) (nr : Nat) (h1 : 1 ≤ nr) (h14 : nr ≤ 14) (hk : ∀ r, r ≤ nr → Byt (k r) 16) (st : Nat → Nat) (hs : Byt st 16) (tb wb bb kb : Nat) (w : World) (hK : KeyAt size k nr tb wb bb kb w) :
    Calls Tryz.prog 157 #[.pointer (some ⟨kb, 0, none⟩), .agg (arr .u8 16 fun i => (st i : Nat))] w
      fun e w' => e = .returned (.tuple #[.agg (arr .u8 16 fun i => (thrB mD U 3 (backK k nr) nr st i : Nat)), .int .i64 0]) ∧ Below w.heap.size w w' := by
  have z16 : (Tryz.prog.info? 27).bind (·.zero) = some (.agg (arr .u8 16 fun _ => 0)) := by kernel_rfl
  have HK := Lib.hid hK
  have SC := Lib.hid (fun w (h : KeyAt size k nr tb wb bb kb w) => schedule_any size tb wb bb (4 * nr + 4) kb true w h.c)
  have EN := Lib.hid (fun w (h : KeyAt size k nr tb wb bb kb w) => decrypt_any (backK k nr) nr h1 h14 (backK_byt hk) st hs tb bb 0 (4 * nr + 4) w h.t h.bs)
  clear hK hk hs
  go_enter Tryz.func157, Tryz.ntmps157
  go_upto_region 0 with fail
  refine wp_region_lit ?_
  refine New.p_box rfl 27 _ rfl .u8 16 (fun i => ((st i : Nat) : Int)) rfl ?_
  intro w1 a1 g1 s1
  simp only [Act.put, sA9, sB9, sC9]
  refine New.p_newarr rfl 27 rfl .u8 16 z16 ?_
  intro w2 a2 g2 s2
  simp only [Act.put, sA9, sB9, sC9]
  refine Step.p_assign rfl _ rfl (.int .i64 0) rfl ?_
  refine wpList_nil ?_
  simp only [Act.put, sA9, sB9, sC9]
  rw [s1] at a2 s2 ⊢
  have E2 : Hid (EcW (fun i => ((st i : Nat) : Int)) (fun _ => 0) w.heap.size w w2) := Lib.hid ⟨bel_arr (_B := 0) a1 (bel_of_gb (_B := 0) g2), a2, ((Below.refl w.heap.size w).grown g1 (Nat.le_refl _) (by simp)).grown g2 (by omega) (by simp)⟩
  clear a1 g1 s1 a2 g2 s2
  go_wp2_with (go_at_call 96; refine (SC.out _ (HK.out.below E2.out.bel)).mono ?_; rintro e w' ⟨rfl, rfl⟩)
  refine Step.begin_ (S := fun w' => EcA (fun i => ((st i : Nat) : Int)) w.heap.size w w') 9 rfl (by kernel_rfl) E2.out.drew.toA ?_
  intro hS
  have SX := Lib.hid hS
  have S2 := Lib.hid E2.out.drew
  clear hS
  refine Step.t_move (i := 0) rfl rfl (by kernel_rfl) (by kernel_rfl) (by kernel_rfl) SX.out _ rfl _ rfl ?_
  simp only [Act.put, sA9, sB9, sC9]
  refine Step.t_val (i := 1) rfl rfl (by kernel_rfl) (by kernel_rfl) (by kernel_rfl) SX.out (.pointer (some ⟨kb, 0, none⟩)) (fun w _ => by rfl) ?_
  simp only [Act.put, sA9, sB9, sC9]
  refine Tree.t_field (i := 2) rfl rfl (by kernel_rfl) (by kernel_rfl) (by kernel_rfl) SX.out _ _ _ rfl kb 0 rfl Tryz.underlying149 rfl (sz := 1) (by kernel_rfl) (by decide) 7 rfl ?_
  simp only [Act.put, sA9, sB9, sC9]
  refine Tree.t_load1 (i := 3) rfl rfl (by kernel_rfl) (by kernel_rfl) (by kernel_rfl) SX.out _ _ rfl kb 7 rfl (.pointer (some ⟨tb, 0, none⟩)) (fun w' hw' => (HK.out.below hw'.bel).t7) Tryz.underlying129 rfl ?_
  simp only [Act.put, sA9, sB9, sC9]
  refine Step.t_move (i := 4) rfl rfl (by kernel_rfl) (by kernel_rfl) (by kernel_rfl) SX.out _ rfl _ rfl ?_
  simp only [Act.put, sA9, sB9, sC9]
  refine Step.t_load (i := 5) rfl rfl (by kernel_rfl) (by kernel_rfl) (by kernel_rfl) SX.out _ _ rfl _ rfl (fun w' hw' => hw'.a) Tryz.underlying27 rfl info16 ?_
  simp only [Act.put, sA9, sB9, sC9]
  refine Step.t_one (i := 6) rfl rfl (by kernel_rfl) ?_
  refine Step.w_callx 181 _ _ rfl Tryz.func181 (by kernel_rfl) rfl _ rfl (EN.out _ (HK.out.below SX.out.bel)) ?_
  rintro e w3 ⟨rfl, hb3⟩
  refine ⟨_, rfl, (S2.out.next hb3 S2.out.le).toA, ?_⟩
  have S3 := Lib.hid (S2.out.next hb3 S2.out.le)
  clear hb3
  simp only [Act.put, sA9, sB9, sC9]
  refine Step.t_one (i := 7) rfl rfl (by kernel_rfl) ?_
  refine wp_store_row 27 _ _ rfl (w.heap.size + 1) _ rfl rfl _ _ S3.out.z (by rw [arr_size]; exact info16) (by rw [arr_size, arr_size]) (arr_one _ _ _) ?_
  have hA := Arr_of_row (f := fun i => (((thrB mD U 3 (backK k nr) nr st i : Nat) : Nat) : Int)) S3.out.z
  have hG := gb_setRow w3 (w.heap.size + 1) (arr .u8 16 fun i => (((thrB mD U 3 (backK k nr) nr st i : Nat) : Nat) : Int))
  generalize w3.setRow (w.heap.size + 1) (arr .u8 16 fun i => (((thrB mD U 3 (backK k nr) nr st i : Nat) : Nat) : Int)) = w6 at *
  have BL := Lib.hid (S3.out.bel.grown hG S3.out.le (fun j hj => by cases hj; exact Nat.le_succ _))
  have S6 : EcA (fun i => ((st i : Nat) : Int)) w.heap.size w w6 := ⟨S3.out.a.grown hG (by omega), BL.out⟩
  refine ⟨S6, ?_⟩
  simp only [Act.put]
  refine Step.t_assign (i := 8) rfl rfl (by kernel_rfl) (by kernel_rfl) (by kernel_rfl) S6 _ rfl (.int .i64 0) rfl ?_
  simp only [Act.put, sA9, sB9, sC9]
  refine Step.t_end (by kernel_rfl) ?_
  clear hG
  go_wp2
  exact ret_row_tmp rfl rfl hA Tryz.underlying27 rfl info16 rfl rfl ⟨rfl, BL.out⟩
end Go.Proofs.YtmifebcaifbmoaaGreatDoor.Rj
end

/- Rj15 -/
section
namespace Go.Proofs.YtmifebcaifbmoaaGreatDoor.Rj
open Go.RowKit Go.Lib Go.Proofs.YtmifebcaifbmoaaGreatDoor.Blk Go.Proofs.YtmifebcaifbmoaaGreatDoor.Aes Go.Proofs.YtmifebcaifbmoaaGreatDoor.Seg

theorem back_wd {x : Nat → Nat} (hx : Byt x 4) :
    tabW U mD (0 * 256 + S (x 0)) ^^^ tabW U mD (1 * 256 + S (x 1)) ^^^ tabW U mD (2 * 256 + S (x 2)) ^^^ tabW U mD (3 * 256 + S (x 3)) = wd (colB mD x) := by
  have b0 := S_lt _ (hx 0 (by decide))
  have b1 := S_lt _ (hx 1 (by decide))
  have b2 := S_lt _ (hx 2 (by decide))
  have b3 := S_lt _ (hx 3 (by decide))
  rw [tab_wd _ _ _ _ b0, tab_wd _ _ _ _ b1, tab_wd _ _ _ _ b2, tab_wd _ _ _ _ b3]
  have B : ∀ y r, y < 256 → Byt (fun j => gm (U y) (mD ((j + 4 - r) % 4))) 4 := fun y r hy j _ => gm_lt _ _ (U_byt y hy)
  rw [wd_xor (B _ _ b0) (B _ _ b1), wd_xor (byt_xor (B _ _ b0) (B _ _ b1)) (B _ _ b2), wd_xor (byt_xor (byt_xor (B _ _ b0) (B _ _ b1)) (B _ _ b2)) (B _ _ b3)]
  refine wd_congr fun j hj => ?_
  rw [US _ (hx 0 (by decide)), US _ (hx 1 (by decide)), US _ (hx 2 (by decide)), US _ (hx 3 (by decide))]
  unfold colB
  rw [show (j + 4 - 0) % 4 = j % 4 by omega, show j + 4 - 1 = j + 3 by omega, show j + 4 - 2 = j + 2 by omega, show j + 4 - 3 = j + 1 by omega]
/-- of a column -/
theorem back_col {s : Nat → Nat} (hs : Byt s 16) {c : Nat} (hc : c < 4) :
    tabW U mD (0 * 256 + S (s (4 * c + 0))) ^^^ tabW U mD (1 * 256 + S (s (4 * c + 1))) ^^^ tabW U mD (2 * 256 + S (s (4 * c + 2))) ^^^ tabW U mD (3 * 256 + S (s (4 * c + 3))) = colW (colsB mD s) c := by
  rw [back_wd (x := fun j => s (4 * c + j)) (colW_byt hs hc)]
  refine wd_congr fun j hj => ?_
  unfold colsB
  rw [show (4 * c + j) / 4 = c by omega, show (4 * c + j) % 4 = j by omega]
/-- what is stored at 4*r + c -/
theorem back_keep {k : Nat → Nat → Nat} {nr r : Nat} (c : Nat) (h : ¬ (0 < r ∧ r < nr)) : colW (backK k nr r) c = colW (k (nr - r)) c := by
  refine wd_congr fun j hj => ?_
  unfold backK
  rw [if_neg h]
theorem back_turn {k : Nat → Nat → Nat} {nr r : Nat} (c : Nat) (h : 0 < r ∧ r < nr) : colW (backK k nr r) c = colW (colsB mD (k (nr - r))) c := by
  refine wd_congr fun j hj => ?_
  unfold backK
  rw [if_pos h]
end Go.Proofs.YtmifebcaifbmoaaGreatDoor.Rj
end
