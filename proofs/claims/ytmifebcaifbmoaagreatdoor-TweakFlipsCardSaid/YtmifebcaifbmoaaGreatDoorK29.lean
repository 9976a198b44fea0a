/- Parts of the proof of TweakFlips. Pick: cofferlaw03: Pick.row, key; fit; num. Pick2: cofferlaw03: the bytes of a key, and the bytes that are sealed. Fit: cofferlaw03: the bytes that are sealed. FlipP: CBC opened, plain: a block that is turned spoils itself and turns the next. -/
import Derived.Test.YtmifebcaifbmoaaGreatDoorK28
import Derived.Test.YtmifebcaifbmoaaGreatDoorK12
import Derived.Test.YtmifebcaifbmoaaGreatDoorK17
/- Pick -/
section
namespace Go.Proofs.YtmifebcaifbmoaaGreatDoor.Tab
open Go.RowKit Go.Lib Go.Proofs.YtmifebcaifbmoaaGreatDoor.Byts

/-- the row that a number picks -/
def pk (z : Int) : Nat := (z % 18446744073709551616).toNat % 52
theorem pk_lt (z : Int) : pk z < 52 := Nat.mod_lt _ (by decide)
theorem rowL_form (t : Nat) : ∃ s1 s2 s3 z1 z2, rowL t = [.string s1, .string s2, .string s3, .int .i64 z1, .int .i64 z2] := by
  unfold rowL
  split
  · exact ⟨_, _, _, _, _, rfl⟩
  · exact ⟨_, _, _, _, _, rfl⟩
theorem num_any (z : Int) (w : World) : Calls Tryz.prog 15 #[.int .i64 z] w fun e w' => e = .returned (.int .i64 z) ∧ w = w' := by
  go_enter Tryz.func15, Tryz.ntmps15
  go_wp2
  go_ret
  exact ⟨rfl, rfl⟩
def pickV (z : Int) (q : Option Addr) (n cap : Nat) : Value := .agg #[.int .i64 z, .slice q n cap]

/-- a pick in its own block, and an empty row behind it -/
structure PkW (z : Int) (q : Option Addr) (n cap : Nat) (B : Nat) (w w' : World) : Prop where
  p : w'.heap[B]? = some (.cells #[.int .i64 z, .slice q n cap] 24 (0, 0))
  r : w'.heap[B + 1]? = some (.cells #[.string ⟨#[]⟩, .string ⟨#[]⟩, .string ⟨#[]⟩, .int .i64 0, .int .i64 0] 45 (0, 0))
  bel : Below B w w'
theorem PkW.next {z : Int} {q : Option Addr} {n cap B : Nat} {w w1 w2 : World} (h : PkW z q n cap B w w1) (hb : Below w1.heap.size w1 w2) : PkW z q n cap B w w2 :=
  ⟨(hb.block B (Array.getElem?_eq_some_iff.1 h.p).1).trans h.p, (hb.block (B + 1) (Array.getElem?_eq_some_iff.1 h.r).1).trans h.r, h.bel.trans (hb.mono (by have := (Array.getElem?_eq_some_iff.1 h.p).1; omega))⟩
theorem pkw_new (z : Int) (q : Option Addr) (n cap : Nat) (w : World) : PkW z q n cap w.heap.size w ((w.alloc (.cells #[.int .i64 z, .slice q n cap] 24)).alloc (.cells #[.string ⟨#[]⟩, .string ⟨#[]⟩, .string ⟨#[]⟩, .int .i64 0, .int .i64 0] 45)) :=
  ⟨(heap_alloc_old _ _ (by simp)).trans (heap_alloc_new w _), by
    have := heap_alloc_new (w.alloc (.cells #[.int .i64 z, .slice q n cap] 24)) (.cells #[.string ⟨#[]⟩, .string ⟨#[]⟩, .string ⟨#[]⟩, .int .i64 0, .int .i64 0] 45)
    simp only [World.size_alloc] at this
    exact this, ((Below.refl _ _).alloc (Nat.le_refl _) _).alloc (by simp) _⟩
theorem own_row {w : World} {B : Nat} {t : TypeId} {v : Value} {n : Nat} {xs : List Value} (h : w.ownsRow B t 5 v n xs) (hn : 0 < n) : ∃ g c, v = .slice (some ⟨g, 0, none⟩) n c ∧ B ≤ g ∧ n ≤ c ∧ c ≤ 9223372036854775807 ∧ ∀ j, j < n * 5 → w.cell? ⟨g, j, none⟩ = xs[j]? := by
  rcases h.2 with ⟨_, h'⟩ | ⟨g, c, cu, rfl, h1, hg, n1, m1, _⟩
  · omega
  · exact ⟨g, c, rfl, h1, n1, m1, fun j hj => h.cellAt j hj⟩

set_option maxRecDepth 100000 in
set_option maxHeartbeats 4000000 in
theorem row_any (z : Int) (_hz : IntKind.i64.has z) (q : Option Addr) (n cap : Nat) (w : World) (hM : Modes w) : Calls Tryz.prog 39 #[pickV z q n cap] w fun e w' => e = .returned (.agg (rowL (pk z)).toArray) ∧ Below w.heap.size w w' := by
  have HP := Lib.hid (pkw_new z q n cap w)
  have HR := Lib.hid (fun w (h : Modes w) => rows_any w h)
  have HM := Lib.hid hM
  clear hM
  unfold pickV
  go_enter Tryz.func39, Tryz.ntmps39
  go_upto_region 1 with fail
  generalize (w.alloc (.cells #[.int .i64 z, .slice q n cap] 24)).alloc (.cells #[.string ⟨#[]⟩, .string ⟨#[]⟩, .string ⟨#[]⟩, .int .i64 0, .int .i64 0] 45) = w1 at *
  go_upto_region 2 with (go_at_call 42; refine (HR.out _ (HM.out.below HP.out.bel)).mono ?_; rintro e w2 ⟨v, xs, rfl, hown, hrows, hb⟩)
  obtain ⟨g, c, rfl, hg1, hc1, hc2, hcell⟩ := own_row hown (by decide)
  have H2 := Lib.hid (HP.out.next hb)
  have HC : Hid (w2.rangeAt g (0 + pk z * 5) (rowL (pk z))) := Lib.hid fun j u hj => by
    have hj5 : j < 5 := by have := (List.getElem?_eq_some_iff.1 hj).1; rwa [rowL_len] at this
    have ht := pk_lt z
    rw [hcell _ (by omega), show 0 + pk z * 5 + j = 5 * pk z + j by omega, hrows _ ht j hj5, hj]
  clear hcell hown hrows hb HP HM HR
  have PL := pk_lt z
  have PE : Hid ((((z % 18446744073709551616).toNat % 52 : Nat) : Int) = (pk z : Nat)) := Lib.hid rfl
  obtain ⟨s1, s2, s3, z1, z2, hL⟩ := rowL_form (pk z)
  have HL := Lib.hid hL
  rw [hL] at HC
  clear hL
  generalize hpt : pk z = t at *
  have HPT := Lib.hid hpt
  clear hpt
  refine wp_region_lit ?_
  refine Step.p_move rfl _ rfl (.slice (some ⟨g, 0, none⟩) 52 c) rfl ?_
  simp only [Act.put, List.setIfInBounds_toArray, List.set_cons_zero, List.set_cons_succ]
  refine Tree.p_field rfl _ _ _ rfl (w.heap.size) (0) rfl Tryz.underlying24 rfl (sz := 1) (by kernel_rfl) (by decide) (0) rfl ?_
  simp only [Act.put, List.setIfInBounds_toArray, List.set_cons_zero, List.set_cons_succ]
  refine Tree.p_load1 rfl _ _ rfl (w.heap.size) (0) rfl (.int .i64 z) (by rw [cell_of_row w2 _ _ _ _ _ H2.out.p]; rfl) Tryz.underlying3 rfl ?_
  simp only [Act.put, List.setIfInBounds_toArray, List.set_cons_zero, List.set_cons_succ]
  refine Step.p_val rfl (.int .u64 (z % 18446744073709551616)) (by unfold execOp; go_simp; exact IntKind.wrap_u64 z) ?_
  simp only [Act.put, List.setIfInBounds_toArray, List.set_cons_zero, List.set_cons_succ]
  refine Step.p_move rfl _ rfl (.slice (some ⟨g, 0, none⟩) 52 c) rfl ?_
  simp only [Act.put, List.setIfInBounds_toArray, List.set_cons_zero, List.set_cons_succ]
  refine Step.p_len rfl _ _ 45 rfl (_) (52) (c) rfl Tryz.underlying81 ?_
  simp only [Act.put, List.setIfInBounds_toArray, List.set_cons_zero, List.set_cons_succ]
  refine Step.p_val rfl (.int .u64 52) (by unfold execOp; go_simp; try rfl) ?_
  simp only [Act.put, List.setIfInBounds_toArray, List.set_cons_zero, List.set_cons_succ]
  refine Step.p_val rfl (.int .u64 (t : Nat)) (by unfold execOp; go_simp; rw [← PE.out, Int.tmod_eq_emod_of_nonneg (by omega)]; omega) ?_
  simp only [Act.put, List.setIfInBounds_toArray, List.set_cons_zero, List.set_cons_succ]
  refine Step.p_val rfl (.int .i64 (t : Nat)) (by unfold execOp; go_simp; try exact IntWalk.i64_in _ (by omega)) ?_
  simp only [Act.put, List.setIfInBounds_toArray, List.set_cons_zero, List.set_cons_succ]
  refine Step.p_index rfl _ 45 _ _ rfl g 0 52 c rfl t rfl PL 5 Tryz.underlying81 (by kernel_rfl) ?_
  simp only [Act.put, List.setIfInBounds_toArray, List.set_cons_zero, List.set_cons_succ]
  refine Tree.p_loadmid rfl _ _ rfl (g) (0 + t * 5) rfl [.string s1, .string s2, .string s3, .int .i64 z1, .int .i64 z2] (HC.out) Tryz.underlying45 rfl (by kernel_rfl) ?_
  simp only [Act.put, List.setIfInBounds_toArray, List.set_cons_zero, List.set_cons_succ]
  refine Cell.p_storerow rfl 45 _ _ rfl (w.heap.size + 1) rfl _ rfl (by kernel_rfl) (by simp [Value.oneCell']) H2.out.r rfl ?_
  intro w3 hr3 hg3 _
  simp only [Act.put]
  refine wpList_nil ?_
  have B3 := Lib.hid (H2.out.bel.grown hg3 H2.out.bel.size (fun j hj => by cases hj; exact Nat.le_succ _))
  clear hg3
  go_wp2
  exact Cell.ret_row rfl rfl hr3 Tryz.underlying45 rfl (by kernel_rfl) rfl ⟨by rw [HPT.out, HL.out], B3.out⟩
end Go.Proofs.YtmifebcaifbmoaaGreatDoor.Tab
end

/- Pick2 -/
section
namespace Go.Proofs.YtmifebcaifbmoaaGreatDoor.Tab
open Go.RowKit Go.Lib Go.Proofs.YtmifebcaifbmoaaGreatDoor.Byts Go.Proofs.YtmifebcaifbmoaaGreatDoor.Push

/-- bytes of the whole key, by the row -/
def szN (t : Nat) : Nat := if t = 0 then 0 else (szT ((t - 1) / 17) ((t - 1) % 17)).toNat
theorem szN_le (t : Nat) (h : t < 52) : szN t ≤ 96 := by
  unfold szN szT
  have := moT_bd ((t - 1) % 17) (Nat.mod_lt _ (by decide))
  split
  · omega
  · split <;> omega
theorem rowL_sz (t : Nat) : ∃ s1 s2 s3 z1, rowL t = [.string s1, .string s2, .string s3, .int .i64 z1, .int .i64 (szN t : Nat)] := by
  unfold rowL szN
  split
  · exact ⟨_, _, _, _, rfl⟩
  · refine ⟨name t, mdT ((t - 1) % 17), stT ((t - 1) % 17), 16 + 8 * ((t - 1) / 17 : Nat), ?_⟩
    have : 0 ≤ szT ((t - 1) / 17) ((t - 1) % 17) := by
      unfold szT
      have := moT_bd ((t - 1) % 17) (Nat.mod_lt _ (by decide))
      split <;> omega
    rw [Int.toNat_of_nonneg this]
/-- byte j of a key -/
def keyF (n : Nat) (f : Nat → Nat) (j : Nat) : Nat := if n = 0 then 7 * j % 256 else f (j % n)
/-- byte j of what is sealed -/
def fitF (n : Nat) (f : Nat → Nat) (j : Nat) : Nat := if n = 0 then j * j % 256 else f (j % n)
structure PkV (z : Int) (q : Option Addr) (n cap : Nat) (B : Nat) (w w' : World) : Prop where
  p : w'.heap[B]? = some (.cells #[.int .i64 z, .slice q n cap] 24 (0, 0))
  bel : Below B w w'
theorem PkV.next {z : Int} {q : Option Addr} {n cap B : Nat} {w w1 w2 : World} (h : PkV z q n cap B w w1) (hb : Below w1.heap.size w1 w2) : PkV z q n cap B w w2 :=
  ⟨(hb.block B (Array.getElem?_eq_some_iff.1 h.p).1).trans h.p, h.bel.trans (hb.mono (by have := (Array.getElem?_eq_some_iff.1 h.p).1; omega))⟩
theorem PkV.lt {z : Int} {q : Option Addr} {n cap B : Nat} {w w1 : World} (h : PkV z q n cap B w w1) : B < w1.heap.size := (Array.getElem?_eq_some_iff.1 h.p).1
theorem PkV.drew {z : Int} {q : Option Addr} {n cap B : Nat} {w w1 : World} (h : PkV z q n cap B w w1) : PkV z q n cap B w w1.drew := ⟨h.p, h.bel.drew⟩
theorem PkV.alloc {z : Int} {q : Option Addr} {n cap B : Nat} {w w1 : World} (h : PkV z q n cap B w w1) (o : Obj) : PkV z q n cap B w (w1.alloc o) := ⟨(heap_alloc_old w1 o h.lt).trans h.p, h.bel.alloc (Nat.le_of_lt h.lt) o⟩
theorem pkv_new (z : Int) (q : Option Addr) (n cap : Nat) (w : World) : PkV z q n cap w.heap.size w (w.alloc (.cells #[.int .i64 z, .slice q n cap] 24)) :=
  ⟨heap_alloc_new w _, (Below.refl _ _).alloc (Nat.le_refl _) _⟩
theorem own_ne' {w : World} {base : Nat} {e : TypeId} {size : Nat} {v : Value} {n : Nat} {xs : List Value} (h : w.ownsRow base e size v n xs) {g : Nat} (hg : g < base) : some g ≠ v.ownBlock := fun e => by
  have := (h.lt g e.symm).1
  omega

set_option maxRecDepth 100000 in
set_option maxHeartbeats 4000000 in
theorem key_any (z : Int) (hz : IntKind.i64.has z) (q : Option Addr) (n cap : Nat) (f : Nat → Nat) (w : World) (hM : Modes w) (hf : BL w q n f) (_hnc : n ≤ cap) (_hcm : cap ≤ 9223372036854775807) (hs : 0 < szN (pk z)) :
    Calls Tryz.prog 31 #[pickV z q n cap] w fun e w' => ∃ v, e = .returned v ∧ OwnB w' w.heap.size v (szN (pk z)) (keyF n f) ∧ Below w.heap.size w w' := by
  have HP := Lib.hid (pkv_new z q n cap w)
  have HR := Lib.hid (fun w (h : Modes w) => row_any z hz q n cap w h)
  have HM := Lib.hid hM
  have HF := Lib.hid hf
  have LE := szN_le (pk z) (pk_lt z)
  clear hM hf
  unfold pickV at *
  go_enter Tryz.func31, Tryz.ntmps31
  go_upto_region 1 with fail
  generalize w.alloc (.cells #[.int .i64 z, .slice q n cap] 24) = w1 at *
  obtain ⟨s1, s2, s3, z1, hL⟩ := rowL_sz (pk z)
  rw [hL] at HR
  clear hL
  generalize hpt : szN (pk z) = sz at *
  have HPT := Lib.hid hpt
  clear hpt
  refine wp_region_lit ?_
  refine Tree.p_loadrow rfl _ _ rfl (w.heap.size) rfl (HP.out.p) Tryz.underlying24 rfl ((by kernel_rfl)) ?_
  simp only [Act.put, List.setIfInBounds_toArray, List.set_cons_zero, List.set_cons_succ]
  refine Step.p_wp rfl (Step.w_callx 39 [.tmp 6] _ rfl Tryz.func39 (by kernel_rfl) rfl [.agg #[.int .i64 z, .slice q n cap]] rfl (HR.out _ (HM.out.below HP.out.bel)) ?_)
  rintro e w2 ⟨rfl, hb⟩
  refine ⟨_, rfl, ?_⟩
  simp only [Act.put, List.setIfInBounds_toArray, List.set_cons_zero, List.set_cons_succ]
  refine Step.p_val rfl (.int .i64 (sz : Nat)) (by unfold execOp; go_simp; try rfl) ?_
  simp only [Act.put, List.setIfInBounds_toArray, List.set_cons_zero, List.set_cons_succ]
  refine Step.p_assign rfl _ rfl (.int .i64 (sz : Nat)) rfl ?_
  simp only [Act.put, List.setIfInBounds_toArray, List.set_cons_zero, List.set_cons_succ]
  refine wpList_nil ?_
  have H2 := Lib.hid (HP.out.next hb)
  clear hb HP HR HM
  have H2l := H2.out.lt
  go_wp2
  go_loopw [5, 4] (fun i s wr => ∃ k : Nat, k ≤ sz ∧ i = .int .i64 k ∧ wr.ownsRow (w.heap.size + 1) 5 1 s k (bl (keyF n f) k) ∧ PkV z q n cap w.heap.size w wr) (fun i _ _ => sz - (Lib.intOf i).toNat)
  case atStart => exact ⟨0, by omega, rfl, World.ownsRow_nil _ _ _ _, H2.out⟩
  case round =>
    obtain ⟨k, hk, rfl, hown, hp⟩ := hrel
    have HO := Lib.hid hown
    have HP := Lib.hid hp
    clear hown hp H2
    by_cases hlt : k < sz
    · have hcell : wr.cell? ⟨w.heap.size, 1, none⟩ = some (.slice q n cap) := by rw [cell_of_row wr _ _ _ _ _ HP.out.p]; rfl
      have HC := Lib.hid hcell
      have hwl := HP.out.lt
      by_cases hn : n = 0
      · have KF : Hid (keyF n f k = 7 * k % 256) := Lib.hid (by unfold keyF; rw [if_pos hn])
        go_upto_region 7 with fail
        clear hn
        refine wp_region_lit ?_
        refine Step.p_move rfl _ rfl (u4) rfl ?_
        simp only [Act.put, List.setIfInBounds_toArray, List.set_cons_zero, List.set_cons_succ]
        refine Step.p_move rfl _ rfl (.int .i64 k) rfl ?_
        simp only [Act.put, List.setIfInBounds_toArray, List.set_cons_zero, List.set_cons_succ]
        refine Step.p_val rfl (.int .i64 (7 * k : Nat)) (by unfold execOp; go_simp; try (first | rfl | omega | exact (IntWalk.i64_in _ (by omega)).trans (by omega))) ?_
        simp only [Act.put, List.setIfInBounds_toArray, List.set_cons_zero, List.set_cons_succ]
        refine Step.p_val rfl (.int .u8 (keyF n f k : Nat)) (by unfold execOp; go_simp; rw [KF.out, IntKind.wrap_u8]; omega) ?_
        simp only [Act.put, List.setIfInBounds_toArray, List.set_cons_zero, List.set_cons_succ]
        refine p_push rfl _ rfl (keyF n f k : Nat) rfl _ _ rfl rfl rfl u4 rfl (w.heap.size + 1) k _ HO.out (by omega) hwl ?_
        intro v' w' hp
        simp only [Act.put, List.setIfInBounds_toArray, List.set_cons_zero, List.set_cons_succ]
        have HQ := Lib.hid hp
        clear hp
        refine Step.p_assign rfl _ rfl (v') rfl ?_
        simp only [Act.put, List.setIfInBounds_toArray, List.set_cons_zero, List.set_cons_succ]
        refine wpList_nil ?_
        go_wp2
        go_roundw
        case rel => exact ⟨k + 1, by omega, rfl, by rw [← bl_succ]; exact HQ.out.own, ⟨(HQ.out.keep _ hwl (own_ne' HO.out (by omega))).trans HP.out.p, HP.out.bel.trans (HQ.out.bel.mono (by omega))⟩⟩
        case measure => simp [Lib.intOf]; omega
      · have hni : ¬ ((n : Int) = 0) := by omega
        have hm : k % n < n := Nat.mod_lt _ (by omega)
        have hmod : (k : Int).tmod n = (k % n : Nat) := rfl
        obtain ⟨gq, oq, rfl, hc⟩ := HF.out (k % n) hm
        have KF : Hid (keyF n f k = f (k % n)) := Lib.hid (by unfold keyF; rw [if_neg hn])
        generalize k % n = m at *
        have HD : Hid (∀ w', PkV z (some ⟨gq, oq, none⟩) n cap w.heap.size w w' → w'.cell? ⟨gq, oq + m * 1, none⟩ = some (.int .u8 (keyF n f k : Nat))) := Lib.hid fun w' h => by
          rw [KF.out, Nat.mul_one]
          exact (h.bel.cell (p := ⟨gq, oq + m, none⟩) (Frame.block_lt hc)).trans hc
        clear hc
        go_upto_region 8 with fail
        refine Step.begin_ (S := fun w' => PkV z (some ⟨gq, oq, none⟩) n cap w.heap.size w w') 13 rfl (by kernel_rfl) HP.out.drew ?_
        intro hS
        have SX := Lib.hid hS
        clear hS
        have CF : Hid (∀ w', PkV z (some ⟨gq, oq, none⟩) n cap w.heap.size w w' → w'.cell? ⟨w.heap.size, 1, none⟩ = some (.slice (some ⟨gq, oq, none⟩) n cap)) := Lib.hid fun w' h => by rw [cell_of_row w' _ _ _ _ _ h.p]; rfl
        have H0 : Hid (wr.drew.ownsRow (w.heap.size + 1) 5 1 u4 k (bl (keyF n f) k)) := Lib.hid HO.out.drew
        refine Step.t_move (i := 0) rfl rfl (by kernel_rfl) (by kernel_rfl) (by kernel_rfl) SX.out _ rfl u4 rfl ?_
        simp only [Act.put, List.setIfInBounds_toArray, List.set_cons_zero, List.set_cons_succ]
        refine Tree.t_field (i := 1) rfl rfl (by kernel_rfl) (by kernel_rfl) (by kernel_rfl) SX.out _ _ _ rfl w.heap.size 0 rfl Tryz.underlying24 rfl (sz := 1) (by kernel_rfl) (by decide) 1 rfl ?_
        simp only [Act.put, List.setIfInBounds_toArray, List.set_cons_zero, List.set_cons_succ]
        refine Tree.t_load1 (i := 2) rfl rfl (by kernel_rfl) (by kernel_rfl) (by kernel_rfl) SX.out _ _ rfl w.heap.size 1 rfl (.slice (some ⟨gq, oq, none⟩) n cap) CF.out Tryz.underlying22 rfl ?_
        simp only [Act.put, List.setIfInBounds_toArray, List.set_cons_zero, List.set_cons_succ]
        refine Step.t_move (i := 3) rfl rfl (by kernel_rfl) (by kernel_rfl) (by kernel_rfl) SX.out _ rfl (.int .i64 k) rfl ?_
        simp only [Act.put, List.setIfInBounds_toArray, List.set_cons_zero, List.set_cons_succ]
        refine Tree.t_field (i := 4) rfl rfl (by kernel_rfl) (by kernel_rfl) (by kernel_rfl) SX.out _ _ _ rfl w.heap.size 0 rfl Tryz.underlying24 rfl (sz := 1) (by kernel_rfl) (by decide) 1 rfl ?_
        simp only [Act.put, List.setIfInBounds_toArray, List.set_cons_zero, List.set_cons_succ]
        refine Tree.t_load1 (i := 5) rfl rfl (by kernel_rfl) (by kernel_rfl) (by kernel_rfl) SX.out _ _ rfl w.heap.size 1 rfl (.slice (some ⟨gq, oq, none⟩) n cap) CF.out Tryz.underlying22 rfl ?_
        simp only [Act.put, List.setIfInBounds_toArray, List.set_cons_zero, List.set_cons_succ]
        refine Step.t_val (i := 6) rfl rfl (by kernel_rfl) (by kernel_rfl) (by kernel_rfl) SX.out (.int .i64 n) (fun w' _ => by unfold execOp; go_simp) ?_
        simp only [Act.put, List.setIfInBounds_toArray, List.set_cons_zero, List.set_cons_succ]
        refine Step.t_val (i := 7) rfl rfl (by kernel_rfl) (by kernel_rfl) (by kernel_rfl) SX.out (.int .i64 m) (fun w' _ => by unfold execOp; go_simp; first | omega | (rw [if_neg (by omega)]) | trace_state) ?_
        simp only [Act.put, List.setIfInBounds_toArray, List.set_cons_zero, List.set_cons_succ]
        refine Step.t_index (i := 8) rfl rfl (by kernel_rfl) (by kernel_rfl) (by kernel_rfl) SX.out _ 5 _ _ rfl gq oq n cap rfl m rfl hm 1 Tryz.underlying22 (by kernel_rfl) ?_
        simp only [Act.put, List.setIfInBounds_toArray, List.set_cons_zero, List.set_cons_succ]
        refine Tree.t_load1 (i := 9) rfl rfl (by kernel_rfl) (by kernel_rfl) (by kernel_rfl) SX.out _ _ rfl gq (oq + m * 1) rfl (.int .u8 (keyF n f k : Nat)) HD.out Tryz.underlying5 rfl ?_
        simp only [Act.put, List.setIfInBounds_toArray, List.set_cons_zero, List.set_cons_succ]
        refine Step.t_one (i := 10) rfl rfl (by kernel_rfl) ?_
        refine w_lit1 _ _ _ rfl .u8 (keyF n f k : Nat) rfl Tryz.underlying22 (by kernel_rfl) (by kernel_rfl) ?_
        refine ⟨SX.out.alloc _, ?_⟩
        simp only [Act.put, List.setIfInBounds_toArray, List.set_cons_zero, List.set_cons_succ]
        obtain ⟨i0, hi, hz0, hz1, hz2⟩ := u8_info
        refine Step.t_one (i := 11) rfl rfl (by kernel_rfl) ?_
        refine Step.w_append _ _ 22 rfl (w.heap.size + 1) 5 i0 (.int .u8 0) 1 1 Tryz.underlying22 hi hz0 hz1 hz2 rfl (by decide) u4 k _ rfl (H0.out.alloc _) ⟨wr.drew.heap.size, 0, none⟩ 1 1 [.int .u8 (keyF n f k : Nat)] rfl rfl (cell_one_new _ _ _) (by intro u hu; simp at hu; subst hu; rfl) (by unfold maxLen; omega) (by omega) (by simp; omega) ?_
        intro v' w' ho hg _ _
        have S1 : PkV z (some ⟨gq, oq, none⟩) n cap w.heap.size w w' := ⟨(hg.block _ (SX.out.alloc _).lt (own_ne' H0.out (by omega))).trans (SX.out.alloc _).p, (SX.out.alloc _).bel.grown hg (Nat.le_of_lt (SX.out.alloc _).lt) (fun j hj => by have := (H0.out.lt j hj).1; omega)⟩
        have HO2 := Lib.hid ho
        have HP2 := Lib.hid S1
        clear ho hg
        refine ⟨S1, ?_⟩
        simp only [Act.put, List.setIfInBounds_toArray, List.set_cons_zero, List.set_cons_succ]
        refine Step.t_assign (i := 12) rfl rfl (by kernel_rfl) (by kernel_rfl) (by kernel_rfl) S1 _ rfl v' rfl ?_
        simp only [Act.put, List.setIfInBounds_toArray, List.set_cons_zero, List.set_cons_succ]
        refine Step.t_end (by kernel_rfl) ?_
        clear S1
        go_wp2
        go_roundw
        case rel => exact ⟨k + 1, by omega, rfl, by rw [← bl_succ]; exact HO2.out, HP2.out⟩
        case measure => simp [Lib.intOf]; omega
    · obtain rfl : k = sz := by omega
      go_wp2
      go_ret
      obtain ⟨g, c, e, h1, h2⟩ := ownB_of HO.out (by rw [HPT.out] at *; omega)
      rw [HPT.out]
      exact ⟨_, rfl, ⟨g, c, e, by omega, h2⟩, HP.out.bel⟩
end Go.Proofs.YtmifebcaifbmoaaGreatDoor.Tab
end

/- Fit -/
section
namespace Go.Proofs.YtmifebcaifbmoaaGreatDoor.Tab
open Go.RowKit Go.Lib Go.Proofs.YtmifebcaifbmoaaGreatDoor.Byts Go.Proofs.YtmifebcaifbmoaaGreatDoor.Push

/-- how many bytes are sealed -/
def fitN (z : Int) (whole : Bool) : Nat := if whole then (16 + (z % 18446744073709551616).toNat % 497) / 16 * 16 else 16 + (z % 18446744073709551616).toNat % 497
theorem fitN_bd (z : Int) (whole : Bool) : 16 ≤ fitN z whole ∧ fitN z whole ≤ 512 := by
  unfold fitN
  split <;> omega

set_option maxRecDepth 100000 in
set_option maxHeartbeats 4000000 in
theorem fit_any (q : Option Addr) (n cap : Nat) (f : Nat → Nat) (z : Int) (_hz : IntKind.i64.has z) (whole : Bool) (w : World) (hf : BL w q n f) (_hnc : n ≤ cap) (_hcm : cap ≤ 9223372036854775807) :
    Calls Tryz.prog 12 #[.slice q n cap, .int .i64 z, .bool whole] w fun e w' => ∃ v, e = .returned v ∧ OwnB w' w.heap.size v (fitN z whole) (fitF n f) ∧ Below w.heap.size w w' := by
  have HF := Lib.hid hf
  clear hf
  obtain ⟨LE1, LE2⟩ := fitN_bd z whole
  go_enter Tryz.func12, Tryz.ntmps12
  go_upto_region 1 with fail
  refine wp_region_lit ?_
  refine Step.p_move rfl _ rfl (.int .i64 z) rfl ?_
  simp only [Act.put, List.setIfInBounds_toArray, List.set_cons_zero, List.set_cons_succ]
  refine Step.p_val rfl (.int .u64 (z % 18446744073709551616)) (by unfold execOp; go_simp; exact IntKind.wrap_u64 z) ?_
  simp only [Act.put, List.setIfInBounds_toArray, List.set_cons_zero, List.set_cons_succ]
  refine Step.p_val rfl (.int .u64 ((z % 18446744073709551616).toNat % 497 : Nat)) (by unfold execOp; go_simp; rw [Int.tmod_eq_emod_of_nonneg (by omega)]; omega) ?_
  simp only [Act.put, List.setIfInBounds_toArray, List.set_cons_zero, List.set_cons_succ]
  refine Step.p_val rfl (.int .i64 ((z % 18446744073709551616).toNat % 497 : Nat)) (by unfold execOp; go_simp; try exact IntWalk.i64_in _ (by omega)) ?_
  simp only [Act.put, List.setIfInBounds_toArray, List.set_cons_zero, List.set_cons_succ]
  refine Step.p_val rfl (.int .i64 (16 + (z % 18446744073709551616).toNat % 497 : Nat)) (by unfold execOp; go_simp; exact (IntWalk.i64_in _ (by omega)).trans (by omega)) ?_
  simp only [Act.put, List.setIfInBounds_toArray, List.set_cons_zero, List.set_cons_succ]
  refine Step.p_assign rfl _ rfl (.int .i64 (16 + (z % 18446744073709551616).toNat % 497 : Nat)) rfl ?_
  simp only [Act.put, List.setIfInBounds_toArray, List.set_cons_zero, List.set_cons_succ]
  refine wpList_nil ?_
  cases whole
  case' true =>
    have e : fitN z true = (16 + (z % 18446744073709551616).toNat % 497) / 16 * 16 := rfl
    have hm0 : 16 + (z % 18446744073709551616).toNat % 497 ≤ 512 := by omega
    generalize 16 + (z % 18446744073709551616).toNat % 497 = m at *
    go_upto_region 3 with fail
    refine wp_region_lit ?_
    refine Step.p_move rfl _ rfl (.int .i64 (m : Nat)) rfl ?_
    simp only [Act.put, List.setIfInBounds_toArray, List.set_cons_zero, List.set_cons_succ]
    refine Step.p_val rfl (.int .i64 (m / 16 : Nat)) (by unfold execOp; go_simp; exact IntWalk.i64_in _ (by omega)) ?_
    simp only [Act.put, List.setIfInBounds_toArray, List.set_cons_zero, List.set_cons_succ]
    refine Step.p_val rfl (.int .i64 (fitN z true : Nat)) (by unfold execOp; go_simp; exact IntWalk.i64_in _ (by omega)) ?_
    simp only [Act.put, List.setIfInBounds_toArray, List.set_cons_zero, List.set_cons_succ]
    refine Step.p_assign rfl _ rfl (.int .i64 (fitN z true : Nat)) rfl ?_
    simp only [Act.put, List.setIfInBounds_toArray, List.set_cons_zero, List.set_cons_succ]
    refine wpList_nil ?_
    generalize hS : fitN z true = sz at *
    clear e
    go_wp2
  case' false =>
    rw [show 16 + (z % 18446744073709551616).toNat % 497 = fitN z false from rfl]
    generalize hS : fitN z false = sz at *
    go_wp2
  all_goals
    go_loopw [9, 8] (fun i s wr => ∃ k : Nat, k ≤ sz ∧ i = .int .i64 k ∧ wr.ownsRow w.heap.size 5 1 s k (bl (fitF n f) k) ∧ Below w.heap.size w wr) (fun i _ _ => sz - (Lib.intOf i).toNat)
    case atStart => exact ⟨0, by omega, rfl, World.ownsRow_nil _ _ _ _, Below.refl _ _⟩
    case round =>
      obtain ⟨k, hk, rfl, hown, hp⟩ := hrel
      have HO := Lib.hid hown
      have HB := Lib.hid hp
      clear hown hp
      by_cases hlt : k < sz
      · have hwl := HB.out.size
        by_cases hn : n = 0
        · have KF : Hid (fitF n f k = k * k % 256) := Lib.hid (by unfold fitF; rw [if_pos hn])
          have hkk : k * k ≤ 512 * 512 := Nat.mul_le_mul (by omega) (by omega)
          have HKK : Hid ((k : Int) * (k : Int) = (k * k : Nat)) := Lib.hid (by simp)
          generalize hke : k * k = kk at *
          have HKE := Lib.hid hke
          clear hke
          go_upto_region 9 with fail
          clear hn
          refine wp_region_lit ?_
          refine Step.p_move rfl _ rfl (u8) rfl ?_
          simp only [Act.put, List.setIfInBounds_toArray, List.set_cons_zero, List.set_cons_succ]
          refine Step.p_move rfl _ rfl (.int .i64 k) rfl ?_
          simp only [Act.put, List.setIfInBounds_toArray, List.set_cons_zero, List.set_cons_succ]
          refine Step.p_move rfl _ rfl (.int .i64 k) rfl ?_
          simp only [Act.put, List.setIfInBounds_toArray, List.set_cons_zero, List.set_cons_succ]
          refine Step.p_val rfl (.int .i64 (kk : Nat)) (by unfold execOp; go_simp; rw [HKK.out]; exact IntWalk.i64_in _ (by omega)) ?_
          simp only [Act.put, List.setIfInBounds_toArray, List.set_cons_zero, List.set_cons_succ]
          refine Step.p_val rfl (.int .u8 (fitF n f k : Nat)) (by unfold execOp; go_simp; rw [KF.out, IntKind.wrap_u8]; omega) ?_
          simp only [Act.put, List.setIfInBounds_toArray, List.set_cons_zero, List.set_cons_succ]
          refine p_push rfl _ rfl (fitF n f k : Nat) rfl _ _ rfl rfl rfl u8 rfl w.heap.size k _ HO.out (by omega) hwl ?_
          intro v' w' hp
          simp only [Act.put, List.setIfInBounds_toArray, List.set_cons_zero, List.set_cons_succ]
          have HQ := Lib.hid hp
          clear hp
          refine Step.p_assign rfl _ rfl (v') rfl ?_
          simp only [Act.put, List.setIfInBounds_toArray, List.set_cons_zero, List.set_cons_succ]
          refine wpList_nil ?_
          go_wp2
          go_roundw
          case rel => exact ⟨k + 1, by omega, rfl, by rw [← bl_succ]; exact HQ.out.own, HB.out.trans HQ.out.bel⟩
          case measure => simp [Lib.intOf]; omega
        · have hni : ¬ ((n : Int) = 0) := by omega
          have hm : k % n < n := Nat.mod_lt _ (by omega)
          obtain ⟨gq, oq, rfl, hc⟩ := HF.out (k % n) hm
          have KF : Hid (fitF n f k = f (k % n)) := Lib.hid (by unfold fitF; rw [if_neg hn])
          have HMD : Hid ((k : Int).tmod n = (k % n : Nat)) := Lib.hid rfl
          generalize k % n = m at *
          have HD : Hid (wr.cell? ⟨gq, oq + m * 1, none⟩ = some (.int .u8 (fitF n f k : Nat))) := Lib.hid (by
            rw [KF.out, Nat.mul_one]
            exact (HB.out.cell (p := ⟨gq, oq + m, none⟩) (Frame.block_lt hc)).trans hc)
          clear hc
          go_upto_region 10 with fail
          refine wp_region_lit ?_
          refine Step.p_move rfl _ rfl (u8) rfl ?_
          simp only [Act.put, List.setIfInBounds_toArray, List.set_cons_zero, List.set_cons_succ]
          refine Step.p_move rfl _ rfl (.slice (some ⟨gq, oq, none⟩) n cap) rfl ?_
          simp only [Act.put, List.setIfInBounds_toArray, List.set_cons_zero, List.set_cons_succ]
          refine Step.p_move rfl _ rfl (.int .i64 k) rfl ?_
          simp only [Act.put, List.setIfInBounds_toArray, List.set_cons_zero, List.set_cons_succ]
          refine Step.p_move rfl _ rfl (.slice (some ⟨gq, oq, none⟩) n cap) rfl ?_
          simp only [Act.put, List.setIfInBounds_toArray, List.set_cons_zero, List.set_cons_succ]
          refine Step.p_len rfl _ _ 5 rfl (_) (n) (cap) rfl Tryz.underlying22 ?_
          simp only [Act.put, List.setIfInBounds_toArray, List.set_cons_zero, List.set_cons_succ]
          refine Step.p_val rfl (.int .i64 (m : Nat)) (by unfold execOp; have := HMD.out; go_simp; try (first | omega | (rw [if_neg (by omega)]))) ?_
          simp only [Act.put, List.setIfInBounds_toArray, List.set_cons_zero, List.set_cons_succ]
          refine Step.p_index rfl _ 5 _ _ rfl gq oq n cap rfl m rfl hm 1 Tryz.underlying22 (by kernel_rfl) ?_
          simp only [Act.put, List.setIfInBounds_toArray, List.set_cons_zero, List.set_cons_succ]
          refine Tree.p_load1 rfl _ _ rfl (gq) (oq + m * 1) rfl (.int .u8 (fitF n f k : Nat)) (HD.out) Tryz.underlying5 rfl ?_
          simp only [Act.put, List.setIfInBounds_toArray, List.set_cons_zero, List.set_cons_succ]
          refine p_push rfl _ rfl (fitF n f k : Nat) rfl _ _ rfl rfl rfl u8 rfl w.heap.size k _ HO.out (by omega) hwl ?_
          intro v' w' hp
          simp only [Act.put, List.setIfInBounds_toArray, List.set_cons_zero, List.set_cons_succ]
          have HQ := Lib.hid hp
          clear hp
          refine Step.p_assign rfl _ rfl (v') rfl ?_
          simp only [Act.put, List.setIfInBounds_toArray, List.set_cons_zero, List.set_cons_succ]
          refine wpList_nil ?_
          go_wp2
          go_roundw
          case rel => exact ⟨k + 1, by omega, rfl, by rw [← bl_succ]; exact HQ.out.own, HB.out.trans HQ.out.bel⟩
          case measure => simp [Lib.intOf]; omega
      · obtain rfl : k = sz := by omega
        go_wp2
        go_ret
        exact ⟨_, rfl, by rw [hS]; exact ownB_of HO.out (by omega), HB.out⟩
end Go.Proofs.YtmifebcaifbmoaaGreatDoor.Tab
end

/- FlipP -/
section
namespace Go.Proofs.YtmifebcaifbmoaaGreatDoor.G
open Go.Proofs.YtmifebcaifbmoaaGreatDoor.Poly Go.Proofs.YtmifebcaifbmoaaGreatDoor.Tw

/-- block j turned by the first k of x's bytes -/
def turnF (f X : Nat → Nat) (j k p : Nat) : Nat := if 16 * j ≤ p ∧ p < 16 * j + k then f p ^^^ X (p - 16 * j) else f p
theorem turnF_lt {f X : Nat → Nat} (hf : ∀ i, f i < 256) (hX : ∀ i, X i < 256) (j k p : Nat) : turnF f X j k p < 256 := by
  unfold turnF
  split
  · exact Nat.xor_lt_two_pow (n := 8) (hf _) (hX _)
  · exact hf _
theorem turnF_zero (f X : Nat → Nat) (j p : Nat) : turnF f X j 0 p = f p := by
  unfold turnF
  rw [if_neg (by omega)]
theorem turnF_at (f X : Nat → Nat) (j k : Nat) : turnF f X j k (16 * j + k) = f (16 * j + k) := by
  unfold turnF
  rw [if_neg (by omega)]
theorem turnF_own (f X : Nat → Nat) (j i : Nat) (hi : i < 16) : turnF f X j 16 (16 * j + i) = f (16 * j + i) ^^^ X i := by
  unfold turnF
  rw [if_pos (by omega), show 16 * j + i - 16 * j = i by omega]
theorem turn_ne (f X : Nat → Nat) {i j : Nat} (h : i ≠ j) : blkN (turnF f X j 16) i = blkN f i := lowN_congr fun q hq => by
  unfold turnF
  rw [if_neg (by omega)]
theorem cbcO_at (D : Nat → Nat) (iv n : Nat) (f : Nat → Nat) (p : Nat) (h : p / 16 < n / 16) : cbcO D iv n f p = byt (D (blkN f (p / 16)) ^^^ cbcP iv f (p / 16)) (p % 16) := by
  unfold cbcO blkF
  rw [if_pos h]
theorem cbcO_lt {D : Nat → Nat} {iv n : Nat} {f : Nat → Nat} (hf : ∀ i, f i < 256) (p : Nat) : cbcO D iv n f p < 256 := blkF_lt hf _ _
section
variable {D : Nat → Nat} {iv n : Nat} {f X : Nat → Nat} {j : Nat} (hf : ∀ i, f i < 256) (hX : ∀ i, X i < 256)
theorem flips_else {p : Nat} (h : p / 16 < n / 16) (h1 : p / 16 ≠ j) (h2 : p / 16 ≠ j + 1) : cbcO D iv n f p = cbcO D iv n (turnF f X j 16) p := by
  rw [cbcO_at _ _ _ _ _ h, cbcO_at _ _ _ _ _ h, turn_ne f X h1]
  unfold cbcP
  by_cases h0 : p / 16 = 0
  · rw [if_pos h0, if_pos h0]
  · rw [if_neg h0, if_neg h0, turn_ne f X (by omega)]
theorem cbcP_same : cbcP iv (turnF f X j 16) j = cbcP iv f j := by
  unfold cbcP
  by_cases h0 : j = 0
  · rw [if_pos h0, if_pos h0]
  · rw [if_neg h0, if_neg h0, turn_ne f X (by omega)]
include hf hX in
theorem flips_next {p : Nat} (h : p / 16 < n / 16) (h2 : p / 16 = j + 1) : cbcO D iv n f p ^^^ cbcO D iv n (turnF f X j 16) p = X (p % 16) := by
  rw [cbcO_at _ _ _ _ _ h, cbcO_at _ _ _ _ _ h, turn_ne f X (show p / 16 ≠ j by omega), h2]
  have e : ∀ g, cbcP iv g (j + 1) = blkN g j := fun g => by unfold cbcP; rw [if_neg (by omega), Nat.add_sub_cancel]
  rw [e, e, byt_xor, byt_xor, byt_blk hf _ _ (Nat.mod_lt _ (by decide)), byt_blk (turnF_lt hf hX j 16) _ _ (Nat.mod_lt _ (by decide)), turnF_own _ _ _ _ (Nat.mod_lt _ (by decide))]
  generalize byt (D (blkN f (j + 1))) (p % 16) = a
  generalize f (16 * j + p % 16) = b
  generalize X (p % 16) = c
  rw [Nat.xor_comm a b, Nat.xor_assoc, ← Nat.xor_assoc a a, Nat.xor_self, Nat.zero_xor, ← Nat.xor_assoc, Nat.xor_self, Nat.zero_xor]
include hf hX in
theorem flips_own (hD : ∀ x, D x < 2 ^ 128) (hI : ∀ a b, a < 2 ^ 128 → b < 2 ^ 128 → D a = D b → a = b) (hj : j < n / 16) :
    (∀ p, p < n → p / 16 = j → cbcO D iv n f p = cbcO D iv n (turnF f X j 16) p) ↔ ∀ i, i < 16 → X i = 0 := by
  have at_ : ∀ i, i < 16 → (cbcO D iv n f (16 * j + i) = cbcO D iv n (turnF f X j 16) (16 * j + i) ↔ byt (D (blkN f j)) i = byt (D (blkN (turnF f X j 16) j)) i) := fun i hi => by
    rw [cbcO_at _ _ _ _ _ (by omega), cbcO_at _ _ _ _ _ (by omega), show (16 * j + i) / 16 = j by omega, show (16 * j + i) % 16 = i by omega, cbcP_same, byt_xor, byt_xor]
    constructor
    · intro h
      have h3 := congrArg (fun x => x ^^^ byt (cbcP iv f j) i) h
      simpa only [Nat.xor_assoc, Nat.xor_self, Nat.xor_zero] using h3
    · intro h
      rw [h]
  have hz := turnF_lt hf hX j 16
  constructor
  · intro h i hi
    have e1 : blkN f j = blkN (turnF f X j 16) j := hI _ _ (blkN_lt hf _) (blkN_lt hz _) (num_ext (hD _) (hD _) fun q hq => (at_ q hq).1 (h _ (by omega) (by omega)))
    have e2 : f (16 * j + i) = f (16 * j + i) ^^^ X i := by
      rw [← turnF_own f X j i hi, ← byt_blk hf j i hi, ← byt_blk hz j i hi, e1]
    have e3 := congrArg (fun x => f (16 * j + i) ^^^ x) e2
    simp only [← Nat.xor_assoc, Nat.xor_self, Nat.zero_xor] at e3
    exact e3.symm
  · intro h p hp hpj
    have e1 : blkN (turnF f X j 16) j = blkN f j := lowN_congr fun q hq => by rw [turnF_own _ _ _ _ hq, h q hq, Nat.xor_zero]
    have := (at_ (p % 16) (Nat.mod_lt _ (by decide))).2 (by rw [e1])
    rwa [show 16 * j + p % 16 = p by omega] at this
end
end Go.Proofs.YtmifebcaifbmoaaGreatDoor.G
end
