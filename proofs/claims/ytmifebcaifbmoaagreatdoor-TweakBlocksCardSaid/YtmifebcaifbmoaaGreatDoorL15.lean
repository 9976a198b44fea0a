/- Parts of the proof of TweakBlocks. Pick2: cofferlaw03: the bytes of a key, and the bytes that are sealed. StoreV: A value of one cell stored into a known row. General. PickOf: cofferlaw03: Pick.of: a kind among those listed. Next: tweak.next: a block's number and one. -/
import Derived.Test.YtmifebcaifbmoaaGreatDoorL00
import Derived.Test.YtmifebcaifbmoaaGreatDoorL14
import Derived.Test.YtmifebcaifbmoaaGreatDoorL12
import Derived.Test.YtmifebcaifbmoaaGreatDoorL03
import Derived.Test.YtmifebcaifbmoaaGreatDoorL04
import Derived.Test.YtmifebcaifbmoaaGreatDoorL13
/- Pick2 -/
section
namespace Go.Proofs.YtmifebcaifbmoaaGreatDoor.Tab
open Go.RowKit Go.Lib Go.Proofs.YtmifebcaifbmoaaGreatDoor.Byts Go.Proofs.YtmifebcaifbmoaaGreatDoor.Push

/-- bytes of the whole key, by the row -/
def szN (t : Nat) : Nat := if t = 0 then 0 else (szT ((t - 1) / 17) ((t - 1) % 17)).toNat
theorem szN_le (t : Nat) (h : t < 52) : szN t ≤ 96 := by
  unfold szN szT
  have := moT_bd ((t - 1) % 17) (Nat.mod_lt _ (by decide))
  split
  · omega
  · split <;> omega
theorem rowL_sz (t : Nat) : ∃ s1 s2 s3 z1, rowL t = [.string s1, .string s2, .string s3, .int .i64 z1, .int .i64 (szN t : Nat)] := by
  unfold rowL szN
  split
  · exact ⟨_, _, _, _, rfl⟩
  · refine ⟨name t, mdT ((t - 1) % 17), stT ((t - 1) % 17), 16 + 8 * ((t - 1) / 17 : Nat), ?_⟩
    have : 0 ≤ szT ((t - 1) / 17) ((t - 1) % 17) := by
      unfold szT
      have := moT_bd ((t - 1) % 17) (Nat.mod_lt _ (by decide))
      split <;> omega
    rw [Int.toNat_of_nonneg this]
/-- byte j of a key -/
def keyF (n : Nat) (f : Nat → Nat) (j : Nat) : Nat := if n = 0 then 7 * j % 256 else f (j % n)
/-- byte j of what is sealed -/
def fitF (n : Nat) (f : Nat → Nat) (j : Nat) : Nat := if n = 0 then j * j % 256 else f (j % n)
structure PkV (z : Int) (q : Option Addr) (n cap : Nat) (B : Nat) (w w' : World) : Prop where
  p : w'.heap[B]? = some (.cells #[.int .i64 z, .slice q n cap] 24 (0, 0))
  bel : Below B w w'
theorem PkV.next {z : Int} {q : Option Addr} {n cap B : Nat} {w w1 w2 : World} (h : PkV z q n cap B w w1) (hb : Below w1.heap.size w1 w2) : PkV z q n cap B w w2 :=
  ⟨(hb.block B (Array.getElem?_eq_some_iff.1 h.p).1).trans h.p, h.bel.trans (hb.mono (by have := (Array.getElem?_eq_some_iff.1 h.p).1; omega))⟩
theorem PkV.lt {z : Int} {q : Option Addr} {n cap B : Nat} {w w1 : World} (h : PkV z q n cap B w w1) : B < w1.heap.size := (Array.getElem?_eq_some_iff.1 h.p).1
theorem PkV.drew {z : Int} {q : Option Addr} {n cap B : Nat} {w w1 : World} (h : PkV z q n cap B w w1) : PkV z q n cap B w w1.drew := ⟨h.p, h.bel.drew⟩
theorem PkV.alloc {z : Int} {q : Option Addr} {n cap B : Nat} {w w1 : World} (h : PkV z q n cap B w w1) (o : Obj) : PkV z q n cap B w (w1.alloc o) := ⟨(heap_alloc_old w1 o h.lt).trans h.p, h.bel.alloc (Nat.le_of_lt h.lt) o⟩
theorem pkv_new (z : Int) (q : Option Addr) (n cap : Nat) (w : World) : PkV z q n cap w.heap.size w (w.alloc (.cells #[.int .i64 z, .slice q n cap] 24)) :=
  ⟨heap_alloc_new w _, (Below.refl _ _).alloc (Nat.le_refl _) _⟩
theorem own_ne' {w : World} {base : Nat} {e : TypeId} {size : Nat} {v : Value} {n : Nat} {xs : List Value} (h : w.ownsRow base e size v n xs) {g : Nat} (hg : g < base) : some g ≠ v.ownBlock := fun e => by
  have := (h.lt g e.symm).1
  omega

set_option maxRecDepth 100000 in
set_option maxHeartbeats 4000000 in
theorem key_any (z : Int) (hz : IntKind.i64.has z) (q : Option Addr) (n cap : Nat) (f : Nat → Nat) (w : World) (hM : Modes w) (hf : BL w q n f) (_hnc : n ≤ cap) (_hcm : cap ≤ 9223372036854775807) (hs : 0 < szN (pk z)) :
    Calls Tryz.prog 31 #[pickV z q n cap] w fun e w' => ∃ v, e = .returned v ∧ OwnB w' w.heap.size v (szN (pk z)) (keyF n f) ∧ Below w.heap.size w w' := by
  have HP := Lib.hid (pkv_new z q n cap w)
  have HR := Lib.hid (fun w (h : Modes w) => row_any z hz q n cap w h)
  have HM := Lib.hid hM
  have HF := Lib.hid hf
  have LE := szN_le (pk z) (pk_lt z)
  clear hM hf
  unfold pickV at *
  go_enter Tryz.func31, Tryz.ntmps31
  go_upto_region 1 with fail
  generalize w.alloc (.cells #[.int .i64 z, .slice q n cap] 24) = w1 at *
  obtain ⟨s1, s2, s3, z1, hL⟩ := rowL_sz (pk z)
  rw [hL] at HR
  clear hL
  generalize hpt : szN (pk z) = sz at *
  have HPT := Lib.hid hpt
  clear hpt
  refine wp_region_lit ?_
  refine Tree.p_loadrow rfl _ _ rfl (w.heap.size) rfl (HP.out.p) Tryz.underlying24 rfl ((by kernel_rfl)) ?_
  simp only [Act.put, sA9, sB9, sC9]
  refine Step.p_wp rfl (Step.w_callx 39 [.tmp 6] _ rfl Tryz.func39 (by kernel_rfl) rfl [.agg #[.int .i64 z, .slice q n cap]] rfl (HR.out _ (HM.out.below HP.out.bel)) ?_)
  rintro e w2 ⟨rfl, hb⟩
  refine ⟨_, rfl, ?_⟩
  simp only [Act.put, sA9, sB9, sC9]
  refine Step.p_val rfl (.int .i64 (sz : Nat)) (by unfold execOp; go_simp; try rfl) ?_
  simp only [Act.put, sA9, sB9, sC9]
  refine Step.p_assign rfl _ rfl (.int .i64 (sz : Nat)) rfl ?_
  simp only [Act.put, sA9, sB9, sC9]
  refine wpList_nil ?_
  have H2 := Lib.hid (HP.out.next hb)
  clear hb HP HR HM
  have H2l := H2.out.lt
  go_wp2
  go_loopw [5, 4] (fun i s wr => ∃ k : Nat, k ≤ sz ∧ i = .int .i64 k ∧ wr.ownsRow (w.heap.size + 1) 5 1 s k (bl (keyF n f) k) ∧ PkV z q n cap w.heap.size w wr) (fun i _ _ => sz - (RowKit.intOf i).toNat)
  case atStart => exact ⟨0, by omega, rfl, World.ownsRow_nil _ _ _ _, H2.out⟩
  case round =>
    obtain ⟨k, hk, rfl, hown, hp⟩ := hrel
    have HO := Lib.hid hown
    have HP := Lib.hid hp
    clear hown hp H2
    by_cases hlt : k < sz
    · have hcell : wr.cell? ⟨w.heap.size, 1, none⟩ = some (.slice q n cap) := by rw [cell_of_row wr _ _ _ _ _ HP.out.p]; rfl
      have HC := Lib.hid hcell
      have hwl := HP.out.lt
      by_cases hn : n = 0
      · have KF : Hid (keyF n f k = 7 * k % 256) := Lib.hid (by unfold keyF; rw [if_pos hn])
        go_upto_region 7 with fail
        clear hn
        refine wp_region_lit ?_
        refine Step.p_move rfl _ rfl (u4) rfl ?_
        simp only [Act.put, sA9, sB9, sC9]
        refine Step.p_move rfl _ rfl (.int .i64 k) rfl ?_
        simp only [Act.put, sA9, sB9, sC9]
        refine Step.p_val rfl (.int .i64 (7 * k : Nat)) (by unfold execOp; go_simp; try (first | rfl | omega | exact (IntWalk.i64_in _ (by omega)).trans (by omega))) ?_
        simp only [Act.put, sA9, sB9, sC9]
        refine Step.p_val rfl (.int .u8 (keyF n f k : Nat)) (by unfold execOp; go_simp; rw [KF.out, IntKind.wrap_u8]; omega) ?_
        simp only [Act.put, sA9, sB9, sC9]
        refine p_push rfl _ rfl (keyF n f k : Nat) rfl _ _ rfl rfl rfl u4 rfl (w.heap.size + 1) k _ HO.out (by omega) hwl ?_
        intro v' w' hp
        simp only [Act.put, sA9, sB9, sC9]
        have HQ := Lib.hid hp
        clear hp
        refine Step.p_assign rfl _ rfl (v') rfl ?_
        simp only [Act.put, sA9, sB9, sC9]
        refine wpList_nil ?_
        go_wp2
        go_roundw
        case rel => exact ⟨k + 1, by omega, rfl, by rw [← bl_succ]; exact HQ.out.own, ⟨(HQ.out.keep _ hwl (own_ne' HO.out (by omega))).trans HP.out.p, HP.out.bel.trans (HQ.out.bel.mono (by omega))⟩⟩
        case measure => simp [RowKit.intOf]; omega
      · have hni : ¬ ((n : Int) = 0) := by omega
        have hm : k % n < n := Nat.mod_lt _ (by omega)
        have hmod : (k : Int).tmod n = (k % n : Nat) := rfl
        obtain ⟨gq, oq, rfl, hc⟩ := HF.out (k % n) hm
        have KF : Hid (keyF n f k = f (k % n)) := Lib.hid (by unfold keyF; rw [if_neg hn])
        generalize k % n = m at *
        have HD : Hid (∀ w', PkV z (some ⟨gq, oq, none⟩) n cap w.heap.size w w' → w'.cell? ⟨gq, oq + m * 1, none⟩ = some (.int .u8 (keyF n f k : Nat))) := Lib.hid fun w' h => by
          rw [KF.out, Nat.mul_one]
          exact (h.bel.cell (p := ⟨gq, oq + m, none⟩) (Frame.block_lt hc)).trans hc
        clear hc
        go_upto_region 8 with fail
        refine Step.begin_ (S := fun w' => PkV z (some ⟨gq, oq, none⟩) n cap w.heap.size w w') 13 rfl (by kernel_rfl) HP.out.drew ?_
        intro hS
        have SX := Lib.hid hS
        clear hS
        have CF : Hid (∀ w', PkV z (some ⟨gq, oq, none⟩) n cap w.heap.size w w' → w'.cell? ⟨w.heap.size, 1, none⟩ = some (.slice (some ⟨gq, oq, none⟩) n cap)) := Lib.hid fun w' h => by rw [cell_of_row w' _ _ _ _ _ h.p]; rfl
        have H0 : Hid (wr.drew.ownsRow (w.heap.size + 1) 5 1 u4 k (bl (keyF n f) k)) := Lib.hid HO.out.drew
        refine Step.t_move (i := 0) rfl rfl (by kernel_rfl) (by kernel_rfl) (by kernel_rfl) SX.out _ rfl u4 rfl ?_
        simp only [Act.put, sA9, sB9, sC9]
        refine Tree.t_field (i := 1) rfl rfl (by kernel_rfl) (by kernel_rfl) (by kernel_rfl) SX.out _ _ _ rfl w.heap.size 0 rfl Tryz.underlying24 rfl (sz := 1) (by kernel_rfl) (by decide) 1 rfl ?_
        simp only [Act.put, sA9, sB9, sC9]
        refine Tree.t_load1 (i := 2) rfl rfl (by kernel_rfl) (by kernel_rfl) (by kernel_rfl) SX.out _ _ rfl w.heap.size 1 rfl (.slice (some ⟨gq, oq, none⟩) n cap) CF.out Tryz.underlying22 rfl ?_
        simp only [Act.put, sA9, sB9, sC9]
        refine Step.t_move (i := 3) rfl rfl (by kernel_rfl) (by kernel_rfl) (by kernel_rfl) SX.out _ rfl (.int .i64 k) rfl ?_
        simp only [Act.put, sA9, sB9, sC9]
        refine Tree.t_field (i := 4) rfl rfl (by kernel_rfl) (by kernel_rfl) (by kernel_rfl) SX.out _ _ _ rfl w.heap.size 0 rfl Tryz.underlying24 rfl (sz := 1) (by kernel_rfl) (by decide) 1 rfl ?_
        simp only [Act.put, sA9, sB9, sC9]
        refine Tree.t_load1 (i := 5) rfl rfl (by kernel_rfl) (by kernel_rfl) (by kernel_rfl) SX.out _ _ rfl w.heap.size 1 rfl (.slice (some ⟨gq, oq, none⟩) n cap) CF.out Tryz.underlying22 rfl ?_
        simp only [Act.put, sA9, sB9, sC9]
        refine Step.t_val (i := 6) rfl rfl (by kernel_rfl) (by kernel_rfl) (by kernel_rfl) SX.out (.int .i64 n) (fun w' _ => by unfold execOp; go_simp) ?_
        simp only [Act.put, sA9, sB9, sC9]
        refine Step.t_val (i := 7) rfl rfl (by kernel_rfl) (by kernel_rfl) (by kernel_rfl) SX.out (.int .i64 m) (fun w' _ => by unfold execOp; go_simp; first | omega | (rw [if_neg (by omega)]) | trace_state) ?_
        simp only [Act.put, sA9, sB9, sC9]
        refine Step.t_index (i := 8) rfl rfl (by kernel_rfl) (by kernel_rfl) (by kernel_rfl) SX.out _ 5 _ _ rfl gq oq n cap rfl m rfl hm 1 Tryz.underlying22 (by kernel_rfl) ?_
        simp only [Act.put, sA9, sB9, sC9]
        refine Tree.t_load1 (i := 9) rfl rfl (by kernel_rfl) (by kernel_rfl) (by kernel_rfl) SX.out _ _ rfl gq (oq + m * 1) rfl (.int .u8 (keyF n f k : Nat)) HD.out Tryz.underlying5 rfl ?_
        simp only [Act.put, sA9, sB9, sC9]
        refine Step.t_one (i := 10) rfl rfl (by kernel_rfl) ?_
        refine w_lit1 _ _ _ rfl .u8 (keyF n f k : Nat) rfl Tryz.underlying22 (by kernel_rfl) (by kernel_rfl) ?_
        refine ⟨SX.out.alloc _, ?_⟩
        simp only [Act.put, sA9, sB9, sC9]
        obtain ⟨i0, hi, hz0, hz1, hz2⟩ := u8_info
        refine Step.t_one (i := 11) rfl rfl (by kernel_rfl) ?_
        refine Step.w_append _ _ 22 rfl (w.heap.size + 1) 5 i0 (.int .u8 0) 1 1 Tryz.underlying22 hi hz0 hz1 hz2 rfl (by decide) u4 k _ rfl (H0.out.alloc _) ⟨wr.drew.heap.size, 0, none⟩ 1 1 [.int .u8 (keyF n f k : Nat)] rfl rfl (cell_one_new _ _ _) (by intro u hu; simp at hu; subst hu; rfl) (by unfold maxLen; omega) (by omega) (by simp; omega) ?_
        intro v' w' ho hg _ _
        have S1 : PkV z (some ⟨gq, oq, none⟩) n cap w.heap.size w w' := ⟨(hg.block _ (SX.out.alloc _).lt (own_ne' H0.out (by omega))).trans (SX.out.alloc _).p, (SX.out.alloc _).bel.grown hg (Nat.le_of_lt (SX.out.alloc _).lt) (fun j hj => by have := (H0.out.lt j hj).1; omega)⟩
        have HO2 := Lib.hid ho
        have HP2 := Lib.hid S1
        clear ho hg
        refine ⟨S1, ?_⟩
        simp only [Act.put, sA9, sB9, sC9]
        refine Step.t_assign (i := 12) rfl rfl (by kernel_rfl) (by kernel_rfl) (by kernel_rfl) S1 _ rfl v' rfl ?_
        simp only [Act.put, sA9, sB9, sC9]
        refine Step.t_end (by kernel_rfl) ?_
        clear S1
        go_wp2
        go_roundw
        case rel => exact ⟨k + 1, by omega, rfl, by rw [← bl_succ]; exact HO2.out, HP2.out⟩
        case measure => simp [RowKit.intOf]; omega
    · obtain rfl : k = sz := by omega
      go_wp2
      go_ret
      obtain ⟨g, c, e, h1, h2⟩ := ownB_of HO.out (by rw [HPT.out] at *; omega)
      rw [HPT.out]
      exact ⟨_, rfl, ⟨g, c, e, by omega, h2⟩, HP.out.bel⟩
end Go.Proofs.YtmifebcaifbmoaaGreatDoor.Tab
end

/- StoreV -/
section
namespace Go.Proofs.YtmifebcaifbmoaaGreatDoor.Step
open Go.RowKit Go.Lib Go.Proofs.YtmifebcaifbmoaaGreatDoor.Tree
section
variable {P : Program} {a : Act} {w : World}
theorem run_storeV (t : TypeId) (hi : (P.info? t).map (·.size) = some 1) (v : Value) (hv : ∀ cs, v ≠ .agg cs) (h1 : v.oneCell' = true) (w : World) (b off : Nat) {T : TypeId} {cur : Array Value} (hb : w.heap[b]? = some (.cells cur T (0, 0))) (ho : off < cur.size) :
    (Instr.storeAt t (.pointer (some ⟨b, off, none⟩)) v).run P w = .ok () (w.setCell ⟨b, off, none⟩ v) := by
  cases hie : P.info? t with
  | none => simp [hie] at hi
  | some ie =>
    simp only [hie, Option.map_some, Option.some.injEq] at hi
    have hs : (sizeOf t).run P w = .ok 1 w := by simp [sizeOf, typeInfo, hie, hi]
    have hc := cell_of_row w b off _ _ _ hb
    have hf := frozen_of_row w b off _ _ hb
    rw [Array.getElem?_eq_getElem ho] at hc
    have hst : (store ⟨b, off, none⟩ v).run P w = .ok () (w.setCell ⟨b, off, none⟩ v) := by
      rw [run_store P w _ v _ h1, hc]
      simp [hf]
    cases v <;> first | exact absurd rfl (hv _) | (simp [Instr.storeAt, go_sem, storeVar, hs, storeCells, hst]; done) | (simp [Instr.storeAt, go_sem, storeVar, hs, storeCells, hc, hf]; done)
theorem w_storeV {o : Oper} {K : Act → World → Prop} {Q : Exit → Act → World → Prop} (t : TypeId) (x y : Operand) (ho : o.op = .store t x y) (b off : Nat) (hx : a.eval x = .pointer (some ⟨b, off, none⟩)) (v : Value) (hy : a.eval y = v) (hv : ∀ cs, v ≠ .agg cs) (h1 : v.oneCell' = true) (hi : (P.info? t).map (·.size) = some 1) {T : TypeId} {cs : Array Value} (hb : w.heap[b]? = some (.cells cs T (0, 0))) (hol : off < cs.size)
    (h : ∀ w', w'.heap[b]? = some (.cells (cs.setIfInBounds off v) T (0, 0)) → w.grownBy w' (some b) → w'.heap.size = w.heap.size → K (a.put o.dst undef) w') : o.wp P a w K Q :=
  w_skip (w' := w.setCell ⟨b, off, none⟩ v) (by
    unfold execOp
    simp only [ho, hx, hy, Sem.run_bind, run_storeV t hi v hv h1 w b off hb hol, Result.andThen_ok, Sem.run_pure]) (by
    rw [setCell_eq_setRow w b off cs T (0, 0) v hb]
    exact h _ (setRow_heap w b cs _ T (0, 0) hb) ⟨rfl, rfl, rfl, by simp, fun x _ hc => setRow_other w b x _ (fun e => hc (by rw [e]))⟩ (by simp))
theorem p_storeV {ops : Array Oper} {Q : Exit → Act → World → Prop} {o : Oper} {rest : List Oper} (hgd : o.guard = none) (t : TypeId) (x y : Operand) (ho : o.op = .store t x y) (b off : Nat) (hx : a.eval x = .pointer (some ⟨b, off, none⟩)) (v : Value) (hy : a.eval y = v) (hv : ∀ cs, v ≠ .agg cs) (h1 : v.oneCell' = true) (hi : (P.info? t).map (·.size) = some 1) {T : TypeId} {cs : Array Value} (hb : w.heap[b]? = some (.cells cs T (0, 0))) (hol : off < cs.size)
    (h : ∀ w', w'.heap[b]? = some (.cells (cs.setIfInBounds off v) T (0, 0)) → w.grownBy w' (some b) → w'.heap.size = w.heap.size → wpList P ops Q rest (a.put o.dst undef) w') : wpList P ops Q (o :: rest) a w :=
  wpList_plain hgd fun _K hK => w_storeV t x y ho b off hx v hy hv h1 hi hb hol fun w' e1 e2 e3 => hK _ _ (h w' e1 e2 e3)
end
end Go.Proofs.YtmifebcaifbmoaaGreatDoor.Step
end

/- PickOf -/
section
namespace Go.Proofs.YtmifebcaifbmoaaGreatDoor.Tab
open Go.RowKit Go.Lib Go.Proofs.YtmifebcaifbmoaaGreatDoor.Byts

def nnP (z : Int) : Nat := (z % 18446744073709551616).toNat % 3000
/-- the kind and the row that a number picks among a list -/
def ofN (K : Nat → Nat) (L : Nat) (z : Int) : Nat := K (nnP z % L) + 17 * (nnP z / L % 3)
/-- a pick in its own block, and an empty pick behind it -/
structure PkO (z : Int) (q : Option Addr) (n cap : Nat) (B : Nat) (w w' : World) : Prop where
  p : w'.heap[B]? = some (.cells #[.int .i64 z, .slice q n cap] 24 (0, 0))
  r : w'.heap[B + 1]? = some (.cells #[.int .i64 0, .slice none 0 0] 24 (0, 0))
  bel : Below B w w'
theorem pko_new (z : Int) (q : Option Addr) (n cap : Nat) (w : World) : PkO z q n cap w.heap.size w ((w.alloc (.cells #[.int .i64 z, .slice q n cap] 24)).alloc (.cells #[.int .i64 0, .slice none 0 0] 24)) :=
  ⟨(heap_alloc_old _ _ (by simp)).trans (heap_alloc_new w _), by
    have := heap_alloc_new (w.alloc (.cells #[.int .i64 z, .slice q n cap] 24)) (.cells #[.int .i64 0, .slice none 0 0] 24)
    simp only [World.size_alloc] at this
    exact this, ((Below.refl _ _).alloc (Nat.le_refl _) _).alloc (by simp) _⟩

set_option maxRecDepth 100000 in
set_option maxHeartbeats 4000000 in
theorem of_any (K : Nat → Nat) (L : Nat) (hL : 0 < L) (hL2 : L ≤ 100) (hK : ∀ j, j < L → K j ≤ 100) (z : Int) (_hz : IntKind.i64.has z) (q : Option Addr) (n cap : Nat) (g kc : Nat) (w : World) (hc : ∀ j, j < L → w.cell? ⟨g, j, none⟩ = some (.int .i64 (K j : Nat))) : Calls Tryz.prog 10 #[pickV z q n cap, .slice (some ⟨g, 0, none⟩) L kc] w fun e w' => e = .returned (pickV (ofN K L z : Nat) q n cap) ∧ Below w.heap.size w w' := by
  have HP := Lib.hid (pko_new z q n cap w)
  have PL : nnP z % L < L := Nat.mod_lt _ hL
  have hk := hK _ PL
  have CC : Hid (∀ w', Below w.heap.size w w' → w'.cell? ⟨g, nnP z % L, none⟩ = some (.int .i64 (K (nnP z % L) : Nat))) := Lib.hid fun w' hb => (hb.cell (Frame.block_lt (hc _ PL))).trans (hc _ PL)
  clear hc hK
  have PE : Hid (((z % 18446744073709551616).toNat % 3000 : Nat) = nnP z) := Lib.hid rfl
  have OE : Hid (ofN K L z = K (nnP z % L) + 17 * (nnP z / L % 3)) := Lib.hid rfl
  have hnn : nnP z < 3000 := Nat.mod_lt _ (by decide)
  generalize ofN K L z = rz at *
  generalize nnP z = nn at *
  have hq3 : nn / L % 3 < 3 := Nat.mod_lt _ (by decide)
  have EM : Hid ((nn : Int).tmod (L : Int) = (nn % L : Nat)) := Lib.hid rfl
  have ED : Hid ((nn : Int).tdiv (L : Int) = (nn / L : Nat)) := Lib.hid rfl
  have hdl : nn / L ≤ nn := Nat.div_le_self _ _
  generalize nn % L = j at *
  generalize nn / L = d at *
  generalize K j = kj at *
  unfold pickV
  go_enter Tryz.func10, Tryz.ntmps10
  go_upto_region 1 with fail
  generalize (w.alloc (.cells #[.int .i64 z, .slice q n cap] 24)).alloc (.cells #[.int .i64 0, .slice none 0 0] 24) = w1 at *
  refine wp_region_lit ?_
  refine Tree.p_field rfl _ _ _ rfl (w.heap.size) (0) rfl Tryz.underlying24 rfl (sz := 1) (by kernel_rfl) (by decide) (0) rfl ?_
  simp only [Act.put, sA9, sB9, sC9]
  refine Tree.p_load1 rfl _ _ rfl (w.heap.size) (0) rfl (.int .i64 z) (by rw [cell_of_row w1 _ _ _ _ _ HP.out.p]; rfl) Tryz.underlying3 rfl ?_
  simp only [Act.put, sA9, sB9, sC9]
  refine Step.p_val rfl (.int .u64 (z % 18446744073709551616)) (by unfold execOp; go_simp; exact IntKind.wrap_u64 z) ?_
  simp only [Act.put, sA9, sB9, sC9]
  refine Step.p_val rfl (.int .u64 (nn : Nat)) (by unfold execOp; go_simp; rw [← PE.out, Int.tmod_eq_emod_of_nonneg (by omega)]; omega) ?_
  simp only [Act.put, sA9, sB9, sC9]
  refine Step.p_val rfl (.int .i64 (nn : Nat)) (by unfold execOp; go_simp; try exact IntWalk.i64_in _ (by omega)) ?_
  simp only [Act.put, sA9, sB9, sC9]
  refine Step.p_assign rfl _ rfl (.int .i64 (nn : Nat)) rfl ?_
  simp only [Act.put, sA9, sB9, sC9]
  refine wpList_nil ?_
  go_upto_region 2 with fail
  refine wp_region_still_tail 15 (by kernel_rfl) (by kernel_rfl) ?_
  refine Still.s_move rfl _ rfl (.slice (some ⟨g, 0, none⟩) L kc) rfl ?_
  simp only [Act.put, sA9, sB9, sC9]
  refine Still.s_move rfl _ rfl (.int .i64 nn) rfl ?_
  simp only [Act.put, sA9, sB9, sC9]
  refine Still.s_move rfl _ rfl (.slice (some ⟨g, 0, none⟩) L kc) rfl ?_
  simp only [Act.put, sA9, sB9, sC9]
  refine Still.s_val rfl (.int .i64 L) (by unfold execOp; go_simp) ?_
  simp only [Act.put, sA9, sB9, sC9]
  refine Still.s_val rfl (.int .i64 j) (by unfold execOp; have := EM.out; go_simp; try (first | omega | (rw [if_neg (by omega)]; exact congrArg _ EM.out))) ?_
  simp only [Act.put, sA9, sB9, sC9]
  refine Still.s_idxS rfl _ 3 _ _ rfl (g) (0) (L) (kc) rfl .i64 (j) rfl PL Tryz.underlying29 (size := 1) (by kernel_rfl) (j) (by omega) ?_
  simp only [Act.put, sA9, sB9, sC9]
  refine Still.s_load1 rfl _ _ rfl (g) (j) rfl (.int .i64 kj) (CC.out _ HP.out.bel.drew) Tryz.underlying3 rfl ?_
  simp only [Act.put, sA9, sB9, sC9]
  refine Still.s_move rfl _ rfl (.int .i64 nn) rfl ?_
  simp only [Act.put, sA9, sB9, sC9]
  refine Still.s_move rfl _ rfl (.slice (some ⟨g, 0, none⟩) L kc) rfl ?_
  simp only [Act.put, sA9, sB9, sC9]
  refine Still.s_val rfl (.int .i64 L) (by unfold execOp; go_simp) ?_
  simp only [Act.put, sA9, sB9, sC9]
  refine Still.s_val rfl (.int .i64 d) (by unfold execOp; have := ED.out; go_simp; rw [if_neg (by omega), show IntKind.i64.wrap (d : Int) = d from IntWalk.i64_in _ (by omega)]) ?_
  simp only [Act.put, sA9, sB9, sC9]
  refine Still.s_val rfl (.int .i64 (d % 3 : Nat)) (by unfold execOp; go_simp; try (first | rfl | exact Int.tmod_eq_emod_of_nonneg (by omega))) ?_
  simp only [Act.put, sA9, sB9, sC9]
  refine Still.s_val rfl (.int .i64 (17 * (d % 3) : Nat)) (by unfold execOp; go_simp; try exact (IntWalk.i64_in _ (by omega)).trans (by omega)) ?_
  simp only [Act.put, sA9, sB9, sC9]
  refine Still.s_val rfl (.int .i64 rz) (by unfold execOp; have := OE.out; go_simp; try exact (IntWalk.i64_in _ (by omega)).trans (by omega)) ?_
  simp only [Act.put, sA9, sB9, sC9]
  refine Still.s_val rfl (.pointer (some ⟨w.heap.size, 0, none⟩)) (by unfold execOp; simp only [Sem.run_bind, Sem.run_pure]; rfl) ?_
  simp only [Act.put, sA9, sB9, sC9]
  refine wpStill_nil ?_
  simp only [List.drop]
  change wpList _ _ _ _ _ w1.drew
  refine Step.p_storeV rfl 3 _ _ rfl w.heap.size 0 rfl (.int .i64 rz) rfl (fun _ e => by cases e) rfl (by kernel_rfl) (show w1.drew.heap[w.heap.size]? = _ from HP.out.p) (by simp) ?_
  intro w2 hr hg hsz
  simp only [Act.put]
  refine wpList_nil ?_
  have H2 : Hid (PkO rz q n cap w.heap.size w w2) := Lib.hid ⟨hr, (hg.block _ (Array.getElem?_eq_some_iff.1 HP.out.r).1 (fun e => absurd (Option.some.inj e) (by omega))).trans HP.out.r, HP.out.bel.drew.grown hg HP.out.bel.size (fun j hj => by cases hj; exact Nat.le_refl _)⟩
  clear hr hg hsz HP CC PE EM ED
  go_upto_region 3 with fail
  refine wp_region_lit ?_
  refine Tree.p_loadrow rfl _ _ rfl (w.heap.size) rfl (H2.out.p) Tryz.underlying24 rfl (by kernel_rfl) ?_
  simp only [Act.put, sA9, sB9, sC9]
  refine Cell.p_storerow rfl 24 _ _ rfl (w.heap.size + 1) rfl #[.int .i64 rz, .slice q n cap] rfl (by kernel_rfl) (by simp [Value.oneCell']) H2.out.r rfl ?_
  intro w3 hr3 hg3 _
  simp only [Act.put]
  refine wpList_nil ?_
  have B3 := Lib.hid (H2.out.bel.grown hg3 H2.out.bel.size (fun j hj => by cases hj; exact Nat.le_succ _))
  clear hg3
  go_wp2
  exact Cell.ret_row rfl rfl hr3 Tryz.underlying24 rfl (by kernel_rfl) rfl ⟨by rw [OE.out], B3.out⟩
end Go.Proofs.YtmifebcaifbmoaaGreatDoor.Tab
end

/- Next -/
section
namespace Go.Proofs.YtmifebcaifbmoaaGreatDoor.Tw
open Go.RowKit Go.Lib Go.Proofs.YtmifebcaifbmoaaGreatDoor.Blk Go.Proofs.YtmifebcaifbmoaaGreatDoor.Field Go.Proofs.YtmifebcaifbmoaaGreatDoor.Poly

/-- digits behind k rounds -/
def nxtF (m k r : Nat) : Nat := if r < k then 0 else byt m r
theorem low_ff {m : Nat} : ∀ k, (∀ r, r < k → byt m r = 255) → m % 256 ^ k = 256 ^ k - 1
  | 0, _ => by simp [Nat.mod_one]
  | k + 1, h => by
    have ih := low_ff k fun r hr => h r (by omega)
    have hk := h k (by omega)
    unfold byt at hk
    have hp : 0 < 256 ^ k := Nat.pow_pos (by decide)
    rw [Nat.pow_succ, Nat.mod_mul, ih, hk]
    generalize 256 ^ k = P at *
    omega
theorem nxt_hi {m k : Nat} (h : ∀ r, r < k → byt m r = 255) (hc : byt m k ≠ 255) (r : Nat) : byt (m + 1) r = if r < k then 0 else if r = k then byt m k + 1 else byt m r := by
  have e := low_ff k h
  have hp : 0 < 256 ^ k := Nat.pow_pos (by decide)
  have hm : m + 1 = (m / 256 ^ k + 1) * 256 ^ k := by
    have := Nat.div_add_mod m (256 ^ k)
    rw [e] at this
    rw [Nat.add_mul, Nat.one_mul, Nat.mul_comm]
    omega
  unfold byt at *
  generalize hqe : m / 256 ^ k = q at *
  have hq := Nat.mod_lt q (show 0 < 256 by decide)
  by_cases h1 : r < k
  · rw [if_pos h1, hm]
    obtain ⟨d, rfl⟩ := Nat.exists_eq_add_of_lt h1
    rw [show 256 ^ (r + d + 1) = 256 ^ (d + 1) * 256 ^ r by rw [← Nat.pow_add]; congr 1; omega, ← Nat.mul_assoc, Nat.mul_div_cancel _ (Nat.pow_pos (by decide)), Nat.pow_succ, ← Nat.mul_assoc, Nat.mul_mod_left]
  · rw [if_neg h1]
    obtain ⟨d, rfl⟩ := Nat.exists_eq_add_of_le (Nat.le_of_not_lt h1)
    have e2 : m / (256 ^ k * 256 ^ d) = q / 256 ^ d := by rw [← Nat.div_div_eq_div_mul, hqe]
    rw [hm, Nat.pow_add, ← Nat.div_div_eq_div_mul, Nat.mul_div_cancel _ hp]
    by_cases hd : d = 0
    · subst hd
      rw [if_pos (by omega), Nat.pow_zero, Nat.div_one]
      omega
    · rw [if_neg (by omega), e2]
      obtain ⟨d', rfl⟩ := Nat.exists_eq_add_of_le (show 1 ≤ d by omega)
      rw [Nat.pow_add, Nat.pow_one, ← Nat.div_div_eq_div_mul, ← Nat.div_div_eq_div_mul, show (q + 1) / 256 = q / 256 by omega]
theorem byt_mod (n r : Nat) (h : r < 16) : byt (n % 2 ^ 128) r = byt n r := by
  have := byt_low (a := n % 256 ^ 16) (b := n / 256 ^ 16) (k := 16) (Nat.mod_lt _ (by decide)) r h
  rw [Nat.mul_comm, Nat.mod_add_div] at this
  exact this.symm
theorem nxt_all {m : Nat} (hm : m < 2 ^ 128) (h : ∀ r, r < 16 → byt m r = 255) : (m + 1) % 2 ^ 128 = 0 := by
  have := low_ff 16 h
  have e : (256 : Nat) ^ 16 = 2 ^ 128 := by decide
  rw [e, Nat.mod_eq_of_lt hm] at this
  omega

set_option maxRecDepth 100000 in
set_option maxHeartbeats 2000000 in
theorem next_any (m : Nat) (hm : m < 2 ^ 128) (w : World) : Calls Tryz.prog 138 #[B16 (revN m)] w fun e w' => e = .returned (B16 (revN ((m + 1) % 2 ^ 128))) ∧ Below w.heap.size w w' := by
  have z16 : (Tryz.prog.info? 27).bind (·.zero) = some (.agg (arr .u8 16 fun _ => 0)) := by kernel_rfl
  go_enter Tryz.func138, Tryz.ntmps138
  go_upto_region 0 with fail
  refine wp_region_lit ?_
  refine New.p_box rfl 27 _ rfl .u8 16 (fun i => ((byt (revN m) i : Nat) : Int)) rfl ?_
  intro w1 a1 g1 s1
  simp only [Act.put, sA9, sB9, sC9]
  refine New.p_newarr rfl 27 rfl .u8 16 z16 ?_
  intro w2 a2 g2 s2
  refine wpList_nil ?_
  simp only [Act.put, sA9, sB9, sC9]
  rw [s1] at a2 s2 ⊢
  have A1 : Hid (Arr w2 w.heap.size .u8 16 27 fun i => ((nxtF m 0 (15 - i) : Nat) : Int)) := Lib.hid ((Rj.bel_arr (_B := 0) a1 (Rj.bel_of_gb (_B := 0) g2)).congr fun i hi => by rw [byt_rev _ _ hi]; rfl)
  have A2 := Lib.hid a2
  have B2 := Lib.hid (((Below.refl w.heap.size w).grown g1 (Nat.le_refl _) (by simp)).grown g2 (by omega) (by simp))
  clear a1 g1 s1 a2 g2 s2
  go_wp2
  go_loopw [3] (fun i wr => ∃ k : Nat, k ≤ 16 ∧ i = .int .i64 (15 - (k : Int)) ∧ (∀ r, r < k → byt m r = 255) ∧ Arr wr w.heap.size .u8 16 27 (fun i => ((nxtF m k (15 - i) : Nat) : Int)) ∧ Arr wr (w.heap.size + 1) .u8 16 27 (fun _ => 0) ∧ Below w.heap.size w wr) (fun i _ => (RowKit.intOf i + 1).toNat)
  case atStart => exact ⟨0, by omega, rfl, fun r h => by omega, A1.out, A2.out, B2.out⟩
  case round =>
    obtain ⟨k, hk, rfl, hff, ha, hz, hb⟩ := hrel
    have HF := Lib.hid hff
    have HA := Lib.hid ha
    have HZ := Lib.hid hz
    have HB := Lib.hid hb
    clear hff ha hz hb A1 A2 B2
    by_cases hlt : k < 16
    · obtain ⟨j, hj⟩ : ∃ j, j = 15 - k := ⟨_, rfl⟩
      have ej : (15 : Int) - (k : Int) = (j : Nat) := by omega
      have hj16 : j < 16 := by omega
      have hcell := HA.out.cell (i := j) hj16
      have hfr := HA.out.free j
      have hkj : 15 - j = k := by omega
      rw [hkj, show nxtF m k k = byt m k from if_neg (Nat.lt_irrefl k)] at hcell
      have hcl := byt_lt m k
      rw [ej]
      by_cases hc : byt m k = 255
      · have HC := Lib.hid hc
        rw [hc] at hcell
        have HE : Hid ((j : Int) - 1 = 15 - ((k + 1 : Nat) : Int)) := Lib.hid (by omega)
        have HKJ := Lib.hid hkj
        clear hc hcl hkj ej hj
        go_wp2
        go_roundw
        case rel =>
          refine ⟨k + 1, by omega, by rw [← HE.out], fun r hr => ?_, ?_, HZ.out.other (by simp) _, HB.out.setCell (Nat.le_refl _) _⟩
          · by_cases e : r = k
            · rw [e, HC.out]
            · exact HF.out r (by omega)
          · refine (HA.out.store j _).congr fun i hi => ?_
            have := HKJ.out
            unfold upd nxtF
            by_cases e : i = j
            · rw [if_pos e, if_pos (by omega)]
              rfl
            · rw [if_neg e]
              dsimp only
              by_cases e2 : 15 - i < k
              · rw [if_pos e2, if_pos (by omega)]
              · have e3 : ¬ 15 - i < k + 1 := by omega
                simp only [e2, e3, if_false]
        case measure => simp [RowKit.intOf]
      · have HN : Hid (∀ r, byt (m + 1) r = if r < k then 0 else if r = k then byt m k + 1 else byt m r) := Lib.hid (nxt_hi HF.out hc)
        have HV : Hid (IntKind.u8.wrap ((byt m k : Nat) + 1 : Int) = (byt m k + 1 : Nat)) := Lib.hid (by rw [IntKind.wrap_u8]; omega)
        have hnz : ¬ (((byt m k + 1 : Nat) : Int) = 0) := by omega
        have HKJ := Lib.hid hkj
        clear hkj ej hj
        go_upto_region 4 with fail
        refine wp_region_lit ?_
        refine Step.p_move rfl _ rfl (.int .i64 j) rfl ?_
        simp only [Act.put, sA9, sB9, sC9]
        refine Still.p_idxA rfl _ 5 _ _ rfl w.heap.size 0 rfl .i64 j rfl hj16 Tryz.underlying27 (size := 1) (by kernel_rfl) j (by omega) ?_
        simp only [Act.put, sA9, sB9, sC9]
        refine Tree.p_load1 rfl _ _ rfl (w.heap.size) (j) rfl (.int .u8 (byt m k : Nat)) (hcell) Tryz.underlying5 rfl ?_
        simp only [Act.put, sA9, sB9, sC9]
        refine Step.p_val rfl (.int .u8 (byt m k + 1 : Nat)) (by unfold execOp; go_simp; exact HV.out) ?_
        simp only [Act.put, sA9, sB9, sC9]
        refine Still.p_idxA rfl _ 5 _ _ rfl w.heap.size 0 rfl .i64 j rfl hj16 Tryz.underlying27 (size := 1) (by kernel_rfl) j (by omega) ?_
        simp only [Act.put, sA9, sB9, sC9]
        refine Still.p_storeA rfl 5 _ _ rfl w.heap.size j rfl .u8 (byt m k + 1 : Nat) rfl HA.out hj16 (by kernel_rfl) ?_
        simp only [Act.put]
        refine wpList_nil ?_
        have HA2 := Lib.hid (HA.out.store j (byt m k + 1 : Nat))
        have HZ2 := Lib.hid (HZ.out.other (a := ⟨w.heap.size, j, none⟩) (by simp) (.int .u8 (byt m k + 1 : Nat)))
        have HB2 := Lib.hid (HB.out.setCell (p := ⟨w.heap.size, j, none⟩) (Nat.le_refl _) (.int .u8 (byt m k + 1 : Nat)))
        have hcell2 := HA2.out.cell (i := j) hj16
        rw [show upd (fun i => ((nxtF m k (15 - i) : Nat) : Int)) j ((byt m k + 1 : Nat) : Int) j = ((byt m k + 1 : Nat) : Int) from if_pos rfl] at hcell2
        clear HA HZ HB hcell hfr HV
        generalize wr.setCell ⟨w.heap.size, j, none⟩ (.int .u8 (byt m k + 1 : Nat)) = w5 at *
        go_wp2_with (first | (refine wpList_load_arr rfl 27 _ rfl _ rfl HA2.out Tryz.underlying27 rfl Field.info16 ?_) | (refine wpList_store_arr rfl 27 _ _ rfl _ rfl rfl HZ2.out Field.info16 ?_; intro w7 a7 g7 s7))
        have B7 := Lib.hid (HB2.out.grown g7 HB2.out.size (fun j hj => by cases hj; exact Nat.le_succ _))
        clear g7
        refine ret_arr rfl rfl a7 Tryz.underlying27 rfl Field.info16 rfl ⟨?_, B7.out⟩
        refine congrArg (fun x => Ending.returned (.agg x)) (arr_congr fun i hi => ?_)
        rw [byt_rev _ _ hi, byt_mod _ _ (by omega), HN.out]
        have := HKJ.out
        unfold upd nxtF
        by_cases e : i = j
        · rw [if_pos e, if_neg (by omega), if_pos (by omega)]
        · rw [if_neg e]
          dsimp only
          by_cases e2 : 15 - i < k
          · rw [if_pos e2, if_pos e2]
          · rw [if_neg e2, if_neg e2, if_neg (by omega)]
    · obtain rfl : k = 16 := by omega
      go_wp2_with (first | (refine wpList_load_arr rfl 27 _ rfl _ rfl HA.out Tryz.underlying27 rfl Field.info16 ?_) | (refine wpList_store_arr rfl 27 _ _ rfl _ rfl rfl HZ.out Field.info16 ?_; intro w7 a7 g7 s7))
      have B7 := Lib.hid (HB.out.grown g7 HB.out.size (fun j hj => by cases hj; exact Nat.le_succ _))
      clear g7
      refine ret_arr rfl rfl a7 Tryz.underlying27 rfl Field.info16 rfl ⟨?_, B7.out⟩
      refine congrArg (fun x => Ending.returned (.agg x)) (arr_congr fun i hi => ?_)
      rw [nxt_all hm HF.out, byt_rev _ _ hi]
      unfold nxtF
      rw [if_pos (by omega)]
      simp [byt]
end Go.Proofs.YtmifebcaifbmoaaGreatDoor.Tw
end
