/- Parts of the proof of TweakBlocks. Rf3: cofferref01: narrow, Sum: 32 bytes. Rf4: cofferref01.Sum: 32 bytes. -/
import Derived.Test.YtmifebcaifbmoaaGreatDoorL00
import Derived.Test.YtmifebcaifbmoaaGreatDoorL39
/- Rf3 -/
section
namespace Go.Proofs.YtmifebcaifbmoaaGreatDoor.Rf1
open Go.RowKit Go.Lib Go.Proofs.YtmifebcaifbmoaaGreatDoor.Blk Go.Proofs.YtmifebcaifbmoaaGreatDoor.Dig Go.Proofs.YtmifebcaifbmoaaGreatDoor.Push Go.Proofs.YtmifebcaifbmoaaGreatDoor.Tw

/-- the blocks under way: words h, constants k, words v -/
structure NZ (hb ob kb vb : Nat) (g off n : Nat) (w w' : World) : Prop where
  h : RowP w' hb 125 8 (isInt .u64)
  o : RowP w' ob 125 8 (isInt .u64)
  k : RowP w' kb 183 64 (isInt .u32)
  v : RowP w' vb 185 8 (isInt .u32)
  bu : BU w' (some ⟨g, off, none⟩) n w.heap.size
  cu : WordsAt 4 80 w'
  bel : Below w.heap.size w w'
  d : w.heap.size ≤ hb ∧ hb < ob ∧ ob < kb ∧ kb < vb ∧ 4 < w.heap.size
variable {hb ob kb vb g off n : Nat} {w w1 w2 : World}
theorem NZ.next (h : NZ hb ob kb vb g off n w w1) (hB : Below w1.heap.size w1 w2) : NZ hb ob kb vb g off n w w2 :=
  ⟨h.h.below hB h.h.lt, h.o.below hB h.o.lt, h.k.below hB h.k.lt, h.v.below hB h.v.lt, h.bu.next (fun g off _z _hg hz => (hB.cell (p := ⟨g, off, none⟩) (Frame.block_lt hz)).trans hz) (Nat.le_refl _), h.cu.below hB, h.bel.trans (hB.mono h.bel.size), h.d⟩
theorem NZ.drew (h : NZ hb ob kb vb g off n w w1) : NZ hb ob kb vb g off n w w1.drew := h.next (Below.refl _ _).drew
theorem NZ.putV (h : NZ hb ob kb vb g off n w w1) (hr : RowP w2 vb 185 8 (isInt .u32)) (hg : w1.grownBy w2 (some vb)) : NZ hb ob kb vb g off n w w2 :=
  have d := h.d
  ⟨h.h.other hg (by omega), h.o.other hg (by omega), h.k.other hg (by omega), hr, h.bu.next (fun g off z hg' hz => cell_keep hg (by omega) hz) (Nat.le_refl _), h.cu.keep hg (by omega), h.bel.grown hg h.bel.size (fun j hj => by cases hj; omega), h.d⟩
theorem NZ.putH (h : NZ hb ob kb vb g off n w w1) (hr : RowP w2 hb 125 8 (isInt .u64)) (hg : w1.grownBy w2 (some hb)) : NZ hb ob kb vb g off n w w2 :=
  have d := h.d
  ⟨hr, h.o.other hg (by omega), h.k.other hg (by omega), h.v.other hg (by omega), h.bu.next (fun g off z hg' hz => cell_keep hg (by omega) hz) (Nat.le_refl _), h.cu.keep hg (by omega), h.bel.grown hg h.bel.size (fun j hj => by cases hj; omega), h.d⟩
section
variable {P : Program} {Q : Exit → Act → World → Prop} {a : Act} {w : World} {o : Oper} {K : Act → World → Prop}
theorem w_loadrow (ty : TypeId) (x : Operand) (ho : o.op = .load ty x) (b : Nat) (hx : a.eval x = .pointer (some ⟨b, 0, none⟩)) {t : TypeId} {cs : Array Value} {d : TypeDesc} (hA : w.heap[b]? = some (.cells cs t (0, 0))) (hu : P.underlying ty = some d) (hd : (match d with | .struct _ | .array _ _ => true | _ => false) = true)
    (hi' : (P.info? ty).map (·.size) = some cs.size) (h : K (a.put o.dst (.agg cs)) w) : o.wp P a w K Q :=
  Step.w_run (.agg cs) w (by
    unfold execOp
    simp only [ho, hx, Instr.loadAt, Instr.sureAddr, Sem.run_bind, Sem.run_pure, Result.andThen_ok, run_loadVar_row w b t ty _ _ d hA hu hd hi']) h
end
set_option maxRecDepth 100000 in
set_option maxHeartbeats 8000000 in
theorem narrow_any (hs : Array Value) (hh : Wd .u64 8 hs) (m cap : Nat) (hn : n = 64 * m) (hm : m ≤ 1000) (hm0 : 0 < m) (hcap : n ≤ cap) (hcm : cap ≤ 9223372036854775807) (hb0 : BU w (some ⟨g, off, none⟩) n w.heap.size) (hcu : WordsAt 4 80 w) :
    Calls Tryz.prog 89 #[.agg hs, .slice (some ⟨g, off, none⟩) n cap] w fun e w' => (∃ cs, e = .returned (.agg cs) ∧ Wd .u64 8 cs) ∧ Below w.heap.size w w' := by
  have z64 : (Tryz.prog.info? 183).bind (·.zero) = some (.agg (arr .u32 64 fun _ => 0)) := by kernel_rfl
  have z8 : (Tryz.prog.info? 185).bind (·.zero) = some (.agg (arr .u32 8 fun _ => 0)) := by kernel_rfl
  have z8b : (Tryz.prog.info? 125).bind (·.zero) = some (.agg (arr .u64 8 fun _ => 0)) := by kernel_rfl
  have hi1 : (Tryz.prog.info? 132).map (·.size) = some 1 := by kernel_rfl
  have hi2 : (Tryz.prog.info? 25).map (·.size) = some 1 := by kernel_rfl
  have h8 : (Tryz.prog.info? 185).map (·.size) = some 8 := by kernel_rfl
  have h64 : (Tryz.prog.info? 183).map (·.size) = some 64 := by kernel_rfl
  have h8b : (Tryz.prog.info? 125).map (·.size) = some 8 := by kernel_rfl
  have hcl : 4 < w.heap.size := by obtain ⟨z, hz⟩ := hcu 0 (by decide); exact Frame.block_lt hz
  have B0 := Lib.hid hb0
  have CU := Lib.hid hcu
  have HH := Lib.hid hh
  have HN := Lib.hid hn
  clear hh hb0 hcu hn
  go_enter Tryz.func89, Tryz.ntmps89
  go_upto_region 0 with fail
  refine wp_region_lit ?_
  refine Seg.p_boxA rfl 125 _ rfl hs rfl ?_
  simp only [Act.put, sA9, sB9, sC9]
  have b1 : Below w.heap.size w (w.alloc (.cells hs 125)) := (Below.refl _ _).alloc (Nat.le_refl _) _
  have r1 : RowP (w.alloc (.cells hs 125)) w.heap.size 125 8 (isInt .u64) := HH.out.row (heap_alloc_new w _)
  have hl1 := r1.lt
  generalize w.alloc (.cells hs 125) = w1 at *
  refine New.p_newarr rfl 125 rfl .u64 8 z8b ?_
  intro w2 a2 g2 s2
  simp only [Act.put, sA9, sB9, sC9]
  refine wpList_nil ?_
  go_upto_region 1 with fail
  refine wp_region_lit ?_
  refine New.p_newarr rfl 183 rfl .u32 64 z64 ?_
  intro w3 a3 g3 s3
  simp only [Act.put, sA9, sB9, sC9]
  refine wpList_nil ?_
  obtain ⟨hb, hhb⟩ : ∃ hb, w.heap.size = hb := ⟨_, rfl⟩
  obtain ⟨ob, hob⟩ : ∃ ob, w1.heap.size = ob := ⟨_, rfl⟩
  obtain ⟨kb, hkb⟩ : ∃ kb, w2.heap.size = kb := ⟨_, rfl⟩
  have b13 : Below w1.heap.size w1 w3 := ((Below.refl _ _).grown g2 (Nat.le_refl _) (by simp)).grown g3 (by omega) (by simp)
  have F1 := Lib.hid (r1.below b13 hl1)
  have F2 := Lib.hid ((rowP_of_arr a2).below (Rj.bel_of_gb (_B := 0) g3) (by omega))
  have F3 := Lib.hid (rowP_of_arr a3)
  have F4 := Lib.hid (b1.trans (b13.mono b1.size))
  rw [hhb] at F1
  rw [hob] at F2
  rw [hkb] at F3
  rw [hhb, hob, hkb]
  clear b1 r1 a2 g2 a3 g3 b13 HH
  have hd : hb < ob ∧ ob < kb ∧ kb < w3.heap.size := by omega
  go_wp2
  go_loopw [6] (fun i wr => ∃ j : Nat, j ≤ 64 ∧ i = .int .i64 j ∧ RowP wr kb 183 64 (isInt .u32) ∧ RowP wr hb 125 8 (isInt .u64) ∧ RowP wr ob 125 8 (isInt .u64) ∧ Below w.heap.size w wr ∧ kb < wr.heap.size) (fun i _ => 64 - (RowKit.intOf i).toNat)
  case atStart => exact ⟨0, by omega, rfl, F3.out, F1.out, F2.out, F4.out, hd.2.2⟩
  case round =>
    obtain ⟨j, hj, rfl, e1, e2, e3, e4, e5⟩ := hrel
    have G1 := Lib.hid e1
    have G2 := Lib.hid e2
    have G3 := Lib.hid e3
    have G4 := Lib.hid e4
    clear e1 e2 e3 e4 F1 F2 F3 F4
    by_cases hlt : j < 64
    · obtain ⟨x, hx⟩ := CU.out j (by omega)
      have HX := Lib.hid ((G4.out.cell (p := ⟨4, j, none⟩) (Frame.block_lt hx)).trans hx)
      clear hx
      go_upto_region 5 with fail
      refine wp_region_lit ?_
      refine Step.p_move rfl _ rfl (.int .i64 j) rfl ?_
      simp only [Act.put, sA9, sB9, sC9]
      refine Step.p_move rfl _ rfl (.int .i64 j) rfl ?_
      simp only [Act.put, sA9, sB9, sC9]
      refine Still.p_idxA rfl _ 25 _ _ rfl 4 0 rfl .i64 j rfl (n := 80) (by omega) Tryz.underlying184 (size := 1) (by kernel_rfl) j (by omega) ?_
      simp only [Act.put, sA9, sB9, sC9]
      refine Tree.p_load1 rfl _ _ rfl 4 j rfl (.int .u64 x) HX.out Tryz.underlying25 rfl ?_
      simp only [Act.put, sA9, sB9, sC9]
      refine p_int rfl .u64 (ex_shr _ _ _ _ rfl _ _ _ 32 rfl rfl) ?_
      intro z1
      simp only [Act.put, sA9, sB9, sC9]
      refine p_int rfl .u32 (ex_conv _ _ _ rfl _ _ _ rfl Tryz.underlying25 Tryz.underlying132) ?_
      intro z2
      simp only [Act.put, sA9, sB9, sC9]
      refine Still.p_idxA rfl _ 132 _ _ rfl kb 0 rfl .i64 j rfl (n := 64) (by omega) Tryz.underlying183 (size := 1) (by kernel_rfl) j (by omega) ?_
      simp only [Act.put, sA9, sB9, sC9]
      refine p_storeP rfl 132 _ _ rfl kb j rfl .u32 z2 rfl hi1 G1.out (by omega) ⟨_, rfl⟩ ?_
      intro w5 hr hg2 hs5
      simp only [Act.put]
      refine wpList_nil ?_
      have Q1 := Lib.hid hr
      have Q2 := Lib.hid (G2.out.other hg2 (by omega))
      have Q3 := Lib.hid (G3.out.other hg2 (by omega))
      have Q4 := Lib.hid (G4.out.grown hg2 G4.out.size (fun j hj => by cases hj; omega))
      clear hr hg2 G1 G2 G3 G4 HX
      go_wp2
      exact ⟨⟨j + 1, by omega, by go_num, Q1.out, Q2.out, Q3.out, Q4.out, by omega⟩, by simp [RowKit.intOf]; omega⟩
    · obtain rfl : j = 64 := by omega
      go_upto_region 6 with fail
      refine wp_region_lit ?_
      refine New.p_newarr rfl 185 rfl .u32 8 z8 ?_
      intro w6 a6 g6 s6
      simp only [Act.put, sA9, sB9, sC9]
      refine wpList_nil ?_
      obtain ⟨vb, hvb⟩ : ∃ vb, wr.heap.size = vb := ⟨_, rfl⟩
      rw [hvb] at a6 ⊢
      have Z6 : Hid (NZ hb ob kb vb g off n w w6) := Lib.hid ⟨G2.out.below (Rj.bel_of_gb (_B := 0) g6) (by omega), G3.out.below (Rj.bel_of_gb (_B := 0) g6) (by omega), G1.out.below (Rj.bel_of_gb (_B := 0) g6) (by omega), rowP_of_arr a6,
        B0.out.next (fun g' o' z hg' hz => (((Rj.bel_of_gb (_B := 0) g6).cell (p := ⟨g', o', none⟩) (by have := G4.out.size; show g' < _; omega)).trans (G4.out.cell (p := ⟨g', o', none⟩) hg')).trans hz) (Nat.le_refl _), (CU.out.below G4.out).below (Rj.bel_of_gb (_B := 0) g6), G4.out.trans ((Rj.bel_of_gb (_B := 0) g6).mono G4.out.size), by omega⟩
      clear a6 g6 G1 G2 G3 G4 B0 CU
      go_wp2
      go_loopw [8] (fun i wr => ∃ j : Nat, j ≤ 8 ∧ i = .int .i64 j ∧ NZ hb ob kb vb g off n w wr) (fun i _ => 8 - (RowKit.intOf i).toNat)
      case atStart => exact ⟨0, by omega, rfl, Z6.out⟩
      case round =>
        obtain ⟨j, hj, rfl, hz⟩ := hrel
        have Z7 := Lib.hid hz
        clear hz Z6
        by_cases hlt : j < 8
        · obtain ⟨x, hx⟩ := Z7.out.h.num (j := j) (by omega)
          have HX := Lib.hid hx
          clear hx
          go_upto_region 10 with fail
          refine wp_region_lit ?_
          refine Step.p_move rfl _ rfl (.int .i64 j) rfl ?_
          simp only [Act.put, sA9, sB9, sC9]
          refine Step.p_move rfl _ rfl (.int .i64 j) rfl ?_
          simp only [Act.put, sA9, sB9, sC9]
          refine Still.p_idxA rfl _ 25 _ _ rfl hb 0 rfl .i64 j rfl (n := 8) (by omega) Tryz.underlying125 (size := 1) (by kernel_rfl) j (by omega) ?_
          simp only [Act.put, sA9, sB9, sC9]
          refine Tree.p_load1 rfl _ _ rfl hb j rfl (.int .u64 x) HX.out Tryz.underlying25 rfl ?_
          simp only [Act.put, sA9, sB9, sC9]
          refine p_int rfl .u32 (ex_conv _ _ _ rfl _ _ _ rfl Tryz.underlying25 Tryz.underlying132) ?_
          intro z2
          simp only [Act.put, sA9, sB9, sC9]
          refine Still.p_idxA rfl _ 132 _ _ rfl vb 0 rfl .i64 j rfl (n := 8) (by omega) Tryz.underlying185 (size := 1) (by kernel_rfl) j (by omega) ?_
          simp only [Act.put, sA9, sB9, sC9]
          refine p_storeP rfl 132 _ _ rfl vb j rfl .u32 z2 rfl hi1 Z7.out.v (by omega) ⟨_, rfl⟩ ?_
          intro w5 hr hg2 _
          simp only [Act.put]
          refine wpList_nil ?_
          have Z8 := Lib.hid (Z7.out.putV hr hg2)
          clear hr hg2 Z7 HX
          go_wp2
          exact ⟨⟨j + 1, by omega, by go_num, Z8.out⟩, by simp [RowKit.intOf]; omega⟩
        · obtain rfl : j = 8 := by omega
          go_wp2
          go_loopw [9] (fun i wr => ∃ j : Nat, j ≤ m ∧ i = .int .i64 (64 * j : Nat) ∧ NZ hb ob kb vb g off n w wr) (fun i _ => n - (RowKit.intOf i).toNat)
          case atStart => exact ⟨0, by omega, rfl, Z7.out⟩
          case round =>
            obtain ⟨j, hj, rfl, hz⟩ := hrel
            have Z9 := Lib.hid hz
            clear hz Z7
            by_cases hlt : j < m
            · have hnj : 64 * j + 64 ≤ n := by have := HN.out; omega
              have hnj2 : (64 * (j : Int)) < n := by omega
              go_upto_region 14 with fail
              refine Step.begin_ (S := fun w' => wr.grownBy w' (some vb)) 9 rfl (by kernel_rfl) (gb_drew (gb_refl wr _)) ?_
              intro hSS
              have SX := Lib.hid hSS
              clear hSS
              obtain ⟨ks, hks, hkw⟩ := Wd.ofRow Z9.out.k
              obtain ⟨vs, hvs, hvw⟩ := Wd.ofRow Z9.out.v
              have hd9 := Z9.out.d
              have KS : Hid (∀ w', wr.grownBy w' (some vb) → w'.heap[kb]? = some (.cells ks 183 (0, 0))) := Lib.hid fun w' h => (h.block kb (Array.getElem?_eq_some_iff.1 hks).1 (fun e => by have := Option.some.inj e; omega)).trans hks
              have VS : Hid (wr.drew.heap[vb]? = some (.cells vs 185 (0, 0))) := Lib.hid hvs
              have TK := Lib.hid (fun w' (h : Below wr.heap.size wr w') => taken_any vs ks hvw hkw (some ⟨g, off + 64 * j, none⟩) (cap - 64 * j) (by omega) (by omega) w' (fun i hi => by
                obtain ⟨g', o', e, hl, z, hz⟩ := Z9.out.bu (64 * j + i) (by omega)
                cases e
                exact ⟨g, off + 64 * j, rfl, Nat.lt_of_lt_of_le hl (Nat.le_trans Z9.out.bel.size h.size), z, by rw [Nat.add_assoc]; exact (h.cell (p := ⟨g, off + (64 * j + i), none⟩) (Frame.block_lt hz)).trans hz⟩))
              have hksz : (Tryz.prog.info? 183).map (·.size) = some ks.size := by rw [hkw.1]; exact h64
              have hvsz : (Tryz.prog.info? 185).map (·.size) = some vs.size := by rw [hvw.1]; exact h8
              have hvs8 := hvw.1
              clear hks hvs hkw hvw
              refine Step.t_move (i := 1) rfl rfl (by kernel_rfl) (by kernel_rfl) (by kernel_rfl) SX.out _ rfl (.slice (some ⟨g, off, none⟩) n cap) rfl ?_
              simp only [Act.put, sA9, sB9, sC9]
              refine Step.t_move (i := 2) rfl rfl (by kernel_rfl) (by kernel_rfl) (by kernel_rfl) SX.out _ rfl (.int .i64 (64 * j : Nat)) rfl ?_
              simp only [Act.put, sA9, sB9, sC9]
              refine Step.t_move (i := 3) rfl rfl (by kernel_rfl) (by kernel_rfl) (by kernel_rfl) SX.out _ rfl (.int .i64 (64 * j : Nat)) rfl ?_
              simp only [Act.put, sA9, sB9, sC9]
              refine Dig.t_loadrow (i := 6) rfl rfl (by kernel_rfl) (by kernel_rfl) (by kernel_rfl) SX.out _ _ rfl kb rfl KS.out Tryz.underlying183 rfl hksz ?_
              simp only [Act.put, sA9, sB9, sC9]
              refine Step.t_val (i := 4) rfl rfl (by kernel_rfl) (by kernel_rfl) (by kernel_rfl) SX.out (.int .i64 (64 * j + 64 : Nat)) (fun w' _ => by unfold execOp; go_simp; try (first | rfl | omega | exact (IntWalk.i64_in _ (by omega)).trans (by omega) | exact IntWalk.i64_in _ (by omega))) ?_
              simp only [Act.put, sA9, sB9, sC9]
              refine Step.t_val (i := 5) rfl rfl (by kernel_rfl) (by kernel_rfl) (by kernel_rfl) SX.out (.slice (some ⟨g, off + 64 * j, none⟩) 64 (cap - 64 * j)) (fun w' _ => by unfold execOp; go_simp; rw [if_pos ⟨by omega, by omega⟩, if_pos ⟨by omega, by omega⟩, show (64 * (j : Int)).toNat = 64 * j by omega, show (64 * (j : Int) + 64).toNat = 64 * j + 64 by omega, if_neg (by omega), show 64 * j + 64 - 64 * j = 64 by omega]) ?_
              simp only [Act.put, sA9, sB9, sC9]
              refine Step.t_one (i := 0) rfl rfl (by kernel_rfl) ?_
              refine w_loadrow _ _ rfl vb rfl VS.out Tryz.underlying185 rfl hvsz ?_
              refine ⟨SX.out, ?_⟩
              simp only [Act.put, sA9, sB9, sC9]
              refine Step.t_one (i := 7) rfl rfl (by kernel_rfl) ?_
              refine Step.w_callx 144 _ _ rfl Tryz.func144 (by kernel_rfl) rfl [.agg vs, .slice (some ⟨g, off + 64 * j, none⟩) 64 (cap - 64 * j), .agg ks] rfl (TK.out _ (Below.refl _ _).drew) ?_
              rintro e wt ⟨⟨cs, rfl, hcw⟩, hB⟩
              have BT : Hid (Below wr.heap.size wr wt) := Lib.hid ((Below.refl wr.heap.size wr).drew.trans hB)
              have CW := Lib.hid hcw
              have SY := Lib.hid (gb_bel SX.out hB)
              have VT := Lib.hid ((hB.block vb (Array.getElem?_eq_some_iff.1 VS.out).1).trans VS.out)
              clear hB hcw SX VS
              refine ⟨_, rfl, SY.out, ?_⟩
              simp only [Act.put, sA9, sB9, sC9]
              refine Step.t_one (i := 8) rfl rfl (by kernel_rfl) ?_
              refine Dig.w_storerow rfl 185 _ _ rfl vb rfl cs rfl (by rw [CW.out.1]; exact h8) CW.out.2.2 VT.out (by rw [CW.out.1, hvs8]) ?_
              intro wu hr hg2
              have ZA := Lib.hid ((Z9.out.next BT.out).putV (CW.out.row hr) hg2)
              refine ⟨gb_trans SY.out hg2, ?_⟩
              clear hr hg2 SY VT
              simp only [Act.put]
              refine Step.t_end (by kernel_rfl) ?_
              go_wp2
              exact ⟨⟨j + 1, by omega, by go_num, ZA.out⟩, by simp [RowKit.intOf]; omega⟩
            · obtain rfl : j = m := by omega
              have hnj : n = 64 * j := HN.out
              have hnj2 : ¬ (64 * (j : Int)) < n := by omega
              go_wp2
              go_loopw [10] (fun i wr => ∃ j : Nat, j ≤ 8 ∧ i = .int .i64 j ∧ NZ hb ob kb vb g off n w wr) (fun i _ => 8 - (RowKit.intOf i).toNat)
              case atStart => exact ⟨0, by omega, rfl, Z9.out⟩
              case round =>
                obtain ⟨j2, hj2, rfl, hz⟩ := hrel
                have ZB := Lib.hid hz
                clear hz Z9
                by_cases hlt2 : j2 < 8
                · obtain ⟨x, hx⟩ := ZB.out.v.num (j := j2) (by omega)
                  have HX := Lib.hid hx
                  clear hx
                  go_upto_region 18 with fail
                  refine wp_region_lit ?_
                  refine Step.p_move rfl _ rfl (.int .i64 j2) rfl ?_
                  simp only [Act.put, sA9, sB9, sC9]
                  refine Step.p_move rfl _ rfl (.int .i64 j2) rfl ?_
                  simp only [Act.put, sA9, sB9, sC9]
                  refine Still.p_idxA rfl _ 132 _ _ rfl vb 0 rfl .i64 j2 rfl (n := 8) (by omega) Tryz.underlying185 (size := 1) (by kernel_rfl) j2 (by omega) ?_
                  simp only [Act.put, sA9, sB9, sC9]
                  refine Tree.p_load1 rfl _ _ rfl vb j2 rfl (.int .u32 x) HX.out Tryz.underlying132 rfl ?_
                  simp only [Act.put, sA9, sB9, sC9]
                  refine p_int rfl .u64 (ex_conv _ _ _ rfl _ _ _ rfl Tryz.underlying132 Tryz.underlying25) ?_
                  intro z2
                  simp only [Act.put, sA9, sB9, sC9]
                  refine Still.p_idxA rfl _ 25 _ _ rfl hb 0 rfl .i64 j2 rfl (n := 8) (by omega) Tryz.underlying125 (size := 1) (by kernel_rfl) j2 (by omega) ?_
                  simp only [Act.put, sA9, sB9, sC9]
                  refine p_storeP rfl 25 _ _ rfl hb j2 rfl .u64 z2 rfl hi2 ZB.out.h (by omega) ⟨_, rfl⟩ ?_
                  intro w5 hr hg2 _
                  simp only [Act.put]
                  refine wpList_nil ?_
                  have ZC := Lib.hid (ZB.out.putH hr hg2)
                  clear hr hg2 ZB HX
                  go_wp2
                  exact ⟨⟨j2 + 1, by omega, by go_num, ZC.out⟩, by simp [RowKit.intOf]; omega⟩
                · obtain rfl : j2 = 8 := by omega
                  obtain ⟨cs, hcs, hcw⟩ := Wd.ofRow ZB.out.h
                  obtain ⟨co, hco, hco8, _⟩ := ZB.out.o
                  have CW := Lib.hid hcw
                  have hsz : (Tryz.prog.info? 125).map (·.size) = some cs.size := by rw [hcw.1]; exact h8b
                  have hd9 := ZB.out.d
                  clear hcw
                  go_upto_region 19 with fail
                  refine wp_region_lit ?_
                  refine Tree.p_loadrow rfl _ _ rfl hb rfl hcs Tryz.underlying125 rfl hsz ?_
                  simp only [Act.put, sA9, sB9, sC9]
                  refine Cell.p_storerow rfl 125 _ _ rfl ob rfl cs rfl hsz CW.out.2.2 hco (by rw [CW.out.1, hco8]) ?_
                  intro w5 hr5 hg5 _
                  simp only [Act.put]
                  refine wpList_nil ?_
                  have B5 := Lib.hid (ZB.out.bel.grown hg5 ZB.out.bel.size (fun j hj => by cases hj; omega))
                  clear hg5
                  go_wp2
                  exact Cell.ret_row rfl rfl hr5 Tryz.underlying125 rfl hsz rfl ⟨⟨cs, rfl, CW.out⟩, B5.out⟩
end Go.Proofs.YtmifebcaifbmoaaGreatDoor.Rf1
end

/- Rf4 -/
section
namespace Go.Proofs.YtmifebcaifbmoaaGreatDoor.Rf1
open Go.RowKit Go.Lib Go.Proofs.YtmifebcaifbmoaaGreatDoor.Blk Go.Proofs.YtmifebcaifbmoaaGreatDoor.Dig Go.Proofs.YtmifebcaifbmoaaGreatDoor.Push Go.Proofs.YtmifebcaifbmoaaGreatDoor.Tw

theorem OwnU.below {B n : Nat} {v : Value} {w w' : World} (h : OwnU B n v w) (hb : Below w.heap.size w w') : OwnU B n v w' := by
  obtain ⟨F, hF, ho⟩ := h
  exact ⟨F, hF, Step.own_of ho (fun g hg => hb.block g (ho.lt g hg).2)⟩
set_option maxRecDepth 100000 in
set_option maxHeartbeats 8000000 in
theorem sum_any (g off n cap : Nat) (f : Nat → Nat) (hf : ∀ i, f i < 256) (hn : 0 < n) (hn2 : n ≤ 1000) (w : World) (h : KeyB w g off n f) (hsq : WordsAt 3 16 w) (hcu : WordsAt 4 80 w) :
    Calls Tryz.prog 47 #[.int .i64 256, .slice (some ⟨g, off, none⟩) n cap] w fun e w' => (∃ v, e = .returned v ∧ OwnU w.heap.size 32 v w') ∧ Below w.heap.size w w' := by
  have z8b : (Tryz.prog.info? 125).bind (·.zero) = some (.agg (arr .u64 8 fun _ => 0)) := by kernel_rfl
  have h8b : (Tryz.prog.info? 125).map (·.size) = some 8 := by kernel_rfl
  have BK := Lib.hid (fun w' => block_any w')
  have SZ := Lib.hid (fun w' => size_any w')
  have FI := Lib.hid (first_any w hsq)
  have LD := Lib.hid (fun w' (b : Below w.heap.size w w') => laid_any g off n cap f hf hn hn2 w' (fun j hj => cell_bel b (h j hj)))
  have CU := Lib.hid (fun w' (b : Below w.heap.size w w') => hcu.below b)
  have ZN := zerosN_at n
  have ZB := zerosN_bd n
  clear h hsq hcu
  go_enter Tryz.func47, Tryz.ntmps47
  go_upto_region 4 with (go_at_call 86; refine (BK.out _).mono ?_; rintro e w' ⟨rfl, rfl⟩)
  refine wp_region_lit ?_
  refine Step.p_move rfl _ rfl (.int .i64 256) rfl ?_
  simp only [Act.put, sA9, sB9, sC9]
  refine Step.p_wp rfl (Step.w_callx 87 _ _ rfl Tryz.func87 (by kernel_rfl) rfl [.int .i64 256] rfl FI.out ?_)
  rintro e w2 ⟨⟨cs, rfl, hws⟩, hb⟩
  refine ⟨_, rfl, ?_⟩
  simp only [Act.put, sA9, sB9, sC9]
  have hwd : Wd .u64 8 cs := .of hws.1 hws.2
  have hsz : (Tryz.prog.info? 125).map (·.size) = some cs.size := by rw [hws.1]; exact h8b
  have hcs8 := hws.1
  have B2 := Lib.hid hb
  clear hb FI hws
  refine New.p_newarr rfl 125 rfl .u64 8 z8b ?_
  intro w3 a3 g3 s3
  simp only [Act.put, sA9, sB9, sC9]
  refine Cell.p_storerow rfl 125 _ _ rfl w2.heap.size rfl cs rfl hsz hwd.2.2 a3 (by rw [arr_size, hcs8]) ?_
  intro w4 hr4 hg4 hs4
  simp only [Act.put]
  refine wpList_nil ?_
  obtain ⟨tb, htb⟩ : ∃ tb, w2.heap.size = tb := ⟨_, rfl⟩
  rw [htb] at hr4 hg4 ⊢
  have htw : w.heap.size ≤ tb := by have := B2.out.size; omega
  have B4 := Lib.hid ((B2.out.grown g3 B2.out.size (by simp)).grown hg4 (by have := B2.out.size; have := g3.size; omega) (fun j hj => by cases hj; exact htw))
  have T4 := Lib.hid (hwd.row hr4)
  clear hr4 hg4 g3 a3 B2 hwd
  go_upto_region 5 with fail
  refine wp_region_lit ?_
  refine Step.p_move rfl _ rfl (.slice (some ⟨g, off, none⟩) n cap) rfl ?_
  simp only [Act.put, sA9, sB9, sC9]
  refine Step.p_move rfl _ rfl (.int .i64 64) rfl ?_
  simp only [Act.put, sA9, sB9, sC9]
  refine Step.p_wp rfl (Step.w_callx 88 _ _ rfl Tryz.func88 (by kernel_rfl) rfl [.slice (some ⟨g, off, none⟩) n cap, .int .i64 64] rfl (LD.out w4 B4.out) ?_)
  rintro e w5 ⟨⟨v, rfl, hu⟩, hb⟩
  refine ⟨_, rfl, ?_⟩
  simp only [Act.put, sA9, sB9, sC9]
  obtain ⟨q, c, rfl, hc1, hc2⟩ := OwnU.sl hu
  have U5 := Lib.hid hu
  have B5 := Lib.hid (B4.out.trans (hb.mono B4.out.size))
  have T5 := Lib.hid (T4.out.below hb T4.out.lt)
  clear hu hb B4 T4 LD
  obtain ⟨M, hM⟩ : ∃ M, n + 1 + zerosN n + 8 = M := ⟨_, rfl⟩
  rw [hM] at U5 hc1 ⊢
  have hM0 : 0 < M ∧ M ≤ 1100 ∧ M % 64 = 0 := by omega
  refine Step.p_assign rfl _ rfl (.slice q M c) rfl ?_
  simp only [Act.put, sA9, sB9, sC9]
  refine wpList_nil ?_
  clear ZN ZB hM
  go_upto_region 8 with fail
  refine wp_region_lit ?_
  obtain ⟨cs5, hcs5, hw5⟩ := Wd.ofRow T5.out
  have hsz5 : (Tryz.prog.info? 125).map (·.size) = some cs5.size := by rw [hw5.1]; exact h8b
  obtain ⟨g5, c5, hq5, _, h25, _, h45⟩ : ∃ g5 c5, (Value.slice q M c) = .slice (some ⟨g5, 0, none⟩) M c5 ∧ True ∧ M ≤ c5 ∧ c5 ≤ 9223372036854775807 ∧ BU w5 (some ⟨g5, 0, none⟩) M w5.heap.size := by
    obtain ⟨F, hF, ho⟩ := U5.out
    obtain ⟨g5, c5, e, x1, x2, x3, x4⟩ := ownB_of ho hM0.1
    exact ⟨g5, c5, e, trivial, x2, x3, fun i hi => ⟨g5, 0, rfl, Frame.block_lt (x4 i hi), _, by rw [Nat.zero_add]; exact x4 i hi⟩⟩
  cases hq5
  have NA := Lib.hid (narrow_any cs5 hw5 (M / 64) c (by omega) (by omega) (by omega) hc1 hc2 h45 (CU.out w5 B5.out))
  clear h45 CU
  refine Tree.p_loadrow rfl _ _ rfl tb rfl hcs5 Tryz.underlying125 rfl hsz5 ?_
  simp only [Act.put, sA9, sB9, sC9]
  refine Step.p_move rfl _ rfl (.slice (some ⟨g5, 0, none⟩) M c) rfl ?_
  simp only [Act.put, sA9, sB9, sC9]
  refine Step.p_wp rfl (Step.w_callx 89 _ _ rfl Tryz.func89 (by kernel_rfl) rfl [.agg cs5, .slice (some ⟨g5, 0, none⟩) M c] rfl NA.out ?_)
  rintro e w6 ⟨⟨cs6, rfl, hw6⟩, hb⟩
  refine ⟨_, rfl, ?_⟩
  simp only [Act.put, sA9, sB9, sC9]
  have hsz6 : (Tryz.prog.info? 125).map (·.size) = some cs6.size := by rw [hw6.1]; exact h8b
  refine Cell.p_storerow rfl 125 _ _ rfl tb rfl cs6 rfl hsz6 hw6.2.2 ((hb.block tb (Array.getElem?_eq_some_iff.1 hcs5).1).trans hcs5) (by rw [hw6.1, hw5.1]) ?_
  intro w7 hr7 hg7 _
  simp only [Act.put]
  refine wpList_nil ?_
  have T7 := Lib.hid (hw6.row hr7)
  have B6 := B5.out.trans (hb.mono B5.out.size)
  have B7 := Lib.hid (B6.grown hg7 B6.size (fun j hj => by cases hj; exact htw))
  clear hr7 hg7 hb hw6 hw5 hcs5 T5 B5 B6 U5 NA
  obtain ⟨B, hB⟩ : ∃ B, w7.heap.size = B := ⟨_, rfl⟩
  have hBw : w.heap.size ≤ B := by have := B7.out.size; omega
  have htB : tb < B := by have := T7.out.lt; omega
  have T8 : Hid (∀ w', Below B w7 w' → RowP w' tb 125 8 (isInt .u64)) := Lib.hid fun w' hb => T7.out.below hb htB
  have U7 : Hid (OwnU B 0 (.slice none 0 0) w7) := Lib.hid ⟨fun _ => 0, fun _ => Nat.zero_lt_succ _, rfl, .inl ⟨rfl, rfl⟩⟩
  go_wp2
  go_loopw [11, 10, 12] (fun i v _ wr => ∃ j : Nat, j ≤ 8 ∧ i = .int .i64 j ∧ OwnU B (4 * j) v wr ∧ Below B w7 wr) (fun i _ _ _ => 8 - (RowKit.intOf i).toNat)
  case atStart => exact ⟨0, by omega, rfl, U7.out, Below.refl _ _⟩
  case round =>
    obtain ⟨j, hj, rfl, hu, hb⟩ := hrel
    obtain ⟨q8, c8, rfl, _, _⟩ := OwnU.sl hu
    have U8 : Hid (OwnU B (4 * j) (.slice q8 (4 * j) c8) wr) := Lib.hid hu
    have B8 := Lib.hid hb
    clear hu hb U7
    go_upto_region 15 with fail
    refine wp_region_lit ?_
    refine Step.p_move rfl _ rfl (.slice q8 (4 * j) c8) rfl ?_
    simp only [Act.put, sA9, sB9, sC9]
    refine Step.p_len rfl _ _ 5 rfl q8 (4 * j) c8 rfl Tryz.underlying22 ?_
    simp only [Act.put, sA9, sB9, sC9]
    refine Step.p_move rfl _ rfl (.int .i64 256) rfl ?_
    simp only [Act.put, sA9, sB9, sC9]
    refine Step.p_wp rfl (Step.w_callx 91 _ _ rfl Tryz.func91 (by kernel_rfl) rfl [.int .i64 256] rfl (SZ.out _) ?_)
    rintro e wz ⟨rfl, hw⟩
    subst hw
    refine ⟨_, rfl, ?_⟩
    simp only [Act.put, sA9, sB9, sC9]
    refine Step.p_val rfl (.bool (decide (j < 8))) (by unfold execOp; go_simp; try (first | rfl | omega | (by_cases h : j < 8 <;> simp [h] <;> omega))) ?_
    simp only [Act.put, sA9, sB9, sC9]
    refine wpList_nil ?_
    by_cases hlt : j < 8
    · skip
      obtain ⟨x, hx⟩ := (T8.out wr B8.out).num (j := j) hlt
      have XB := Lib.hid (fun w' (hb : Below B w7 w') => (T8.out w' hb))
      clear hx
      go_wp2
      go_loopw [12, 10] (fun i v wr => ∃ d : Nat, d ≤ 4 ∧ i = .int .i64 (3 - (d : Int)) ∧ OwnU B (4 * j + d) v wr ∧ Below B w7 wr) (fun i _ _ => (RowKit.intOf i + 1).toNat)
      case atStart => exact ⟨0, by omega, rfl, U8.out, B8.out⟩
      case round =>
        obtain ⟨d, hd, rfl, hu, hb⟩ := hrel
        obtain ⟨q9, c9, rfl, _, _⟩ := OwnU.sl hu
        have U9 : Hid (OwnU B (4 * j + d) (.slice q9 (4 * j + d) c9) wr) := Lib.hid hu
        have B9 := Lib.hid hb
        have hB9 : B ≤ wr.heap.size := by have := hb.size; omega
        clear hu hb U8
        by_cases hd4 : d < 4
        · skip
          obtain ⟨e, he⟩ : ∃ e : Nat, (3 - (d : Int)) = (e : Nat) := ⟨3 - d, by omega⟩
          have hed : e + d = 3 := by omega
          rw [he]
          go_upto_region 18 with fail
          refine wp_region_lit ?_
          refine Step.p_move rfl _ rfl (.int .i64 e) rfl ?_
          simp only [Act.put, sA9, sB9, sC9]
          refine Step.p_val rfl (.bool true) (by unfold execOp; go_simp; try rfl) ?_
          simp only [Act.put, sA9, sB9, sC9]
          refine Step.p_move rfl _ rfl (.bool true) rfl ?_
          simp only [Act.put, sA9, sB9, sC9]
          with_reducible refine Step.p_unguard ?_ ?_
          · kernel_rfl
          refine Step.p_move rfl _ rfl (.slice q9 (4 * j + d) c9) rfl ?_
          simp only [Act.put, sA9, sB9, sC9]
          with_reducible refine Step.p_unguard ?_ ?_
          · kernel_rfl
          refine Step.p_len rfl _ _ 5 rfl q9 (4 * j + d) c9 rfl Tryz.underlying22 ?_
          simp only [Act.put, sA9, sB9, sC9]
          with_reducible refine Step.p_unguard ?_ ?_
          · kernel_rfl
          refine Step.p_move rfl _ rfl (.int .i64 256) rfl ?_
          simp only [Act.put, sA9, sB9, sC9]
          with_reducible refine Step.p_unguard ?_ ?_
          · kernel_rfl
          refine Step.p_wp rfl (Step.w_callx 91 _ _ rfl Tryz.func91 (by kernel_rfl) rfl [.int .i64 256] rfl (SZ.out _) ?_)
          rintro e wz ⟨rfl, hw⟩
          subst hw
          refine ⟨_, rfl, ?_⟩
          simp only [Act.put, sA9, sB9, sC9]
          with_reducible refine Step.p_unguard ?_ ?_
          · kernel_rfl
          refine Step.p_val rfl (.bool true) (by unfold execOp; go_simp; try (first | rfl | omega)) ?_
          simp only [Act.put, sA9, sB9, sC9]
          refine Step.p_pick rfl _ _ _ rfl true rfl (.bool true) rfl ?_
          simp only [Act.put, sA9, sB9, sC9]
          refine wpList_nil ?_
          obtain ⟨x, hx⟩ := (T8.out wr B9.out).num (j := j) hlt
          have HX := Lib.hid hx
          obtain ⟨F, hF, ho⟩ := U9.out
          have HO := Lib.hid ho
          have HFF := Lib.hid hF
          clear hx ho hF
          go_upto_region 20 with fail
          refine wp_region_lit ?_
          refine Step.p_move rfl _ rfl (.slice q9 (4 * j + d) c9) rfl ?_
          simp only [Act.put, sA9, sB9, sC9]
          refine Step.p_move rfl _ rfl (.int .i64 j) rfl ?_
          simp only [Act.put, sA9, sB9, sC9]
          refine Still.p_idxA rfl _ 25 _ _ rfl tb 0 rfl .i64 j rfl (n := 8) hlt Tryz.underlying125 (size := 1) (by kernel_rfl) j (by omega) ?_
          simp only [Act.put, sA9, sB9, sC9]
          refine Tree.p_load1 rfl _ _ rfl tb j rfl (.int .u64 x) HX.out Tryz.underlying25 rfl ?_
          simp only [Act.put, sA9, sB9, sC9]
          refine Step.p_move rfl _ rfl (.int .i64 e) rfl ?_
          simp only [Act.put, sA9, sB9, sC9]
          refine Step.p_val rfl (.int .i64 (8 * e : Nat)) (by unfold execOp; go_simp; try (first | rfl | omega | exact (IntWalk.i64_in _ (by omega)).trans (by omega) | exact IntWalk.i64_in _ (by omega))) ?_
          simp only [Act.put, sA9, sB9, sC9]
          refine Step.p_val rfl (.int .u64 (8 * e : Nat)) (by unfold execOp; go_simp; try (first | rfl | omega | exact (IntWalk.u64_in _ (by omega)).trans (by omega) | exact IntWalk.u64_in _ (by omega))) ?_
          simp only [Act.put, sA9, sB9, sC9]
          refine p_int rfl .u64 (ex_shr _ _ _ _ rfl _ _ _ (8 * e) rfl rfl) ?_
          intro z1
          simp only [Act.put, sA9, sB9, sC9]
          refine p_conv8 rfl _ _ _ rfl .u64 z1 rfl Tryz.underlying25 Tryz.underlying5 ?_
          intro z hz
          simp only [Act.put, sA9, sB9, sC9]
          refine p_push rfl _ rfl (z : Nat) rfl _ _ rfl rfl rfl _ rfl B (4 * j + d) _ HO.out (by omega) hB9 ?_
          intro v2 w2 hp
          simp only [Act.put, sA9, sB9, sC9]
          refine Step.p_assign rfl _ rfl (v2) rfl ?_
          simp only [Act.put, sA9, sB9, sC9]
          refine wpList_nil ?_
          have HP : Hid (OwnU B (4 * j + (d + 1)) v2 w2 ∧ Below B w7 w2) := Lib.hid (by
            obtain ⟨G, hG, e3⟩ := push_some (_B := B) (n := 4 * j + d) HFF.out hz
            exact ⟨⟨G, hG, by have := hp.own; rw [e3] at this; exact this⟩, B9.out.trans hp.bel⟩)
          clear hp
          go_wp2
          exact ⟨⟨d + 1, by omega, by go_num, HP.out⟩, by simp [RowKit.intOf]; try omega⟩
        · obtain rfl : d = 4 := by omega
          have HU : Hid (OwnU B (4 * (j + 1)) (.slice q9 (4 * j + 4) c9) wr) := Lib.hid (by rw [Nat.mul_add]; exact U9.out)
          go_upto_region 18 with fail
          refine wp_region_lit ?_
          refine Step.p_move rfl _ rfl (.int .i64 (3 - ((4 : Nat) : Int))) rfl ?_
          simp only [Act.put, sA9, sB9, sC9]
          refine Step.p_val rfl (.bool false) (by unfold execOp; go_simp; try rfl) ?_
          simp only [Act.put, sA9, sB9, sC9]
          refine Step.p_move rfl _ rfl (.bool false) rfl ?_
          simp only [Act.put, sA9, sB9, sC9]
          with_reducible refine Step.p_skip ?_ ?_
          · kernel_rfl
          simp only [Act.put, sA9, sB9, sC9]
          with_reducible refine Step.p_skip ?_ ?_
          · kernel_rfl
          simp only [Act.put, sA9, sB9, sC9]
          with_reducible refine Step.p_skip ?_ ?_
          · kernel_rfl
          simp only [Act.put, sA9, sB9, sC9]
          with_reducible refine Step.p_skip ?_ ?_
          · kernel_rfl
          simp only [Act.put, sA9, sB9, sC9]
          with_reducible refine Step.p_skip ?_ ?_
          · kernel_rfl
          simp only [Act.put, sA9, sB9, sC9]
          refine Step.p_pick rfl _ _ _ rfl false rfl (.bool false) rfl ?_
          simp only [Act.put, sA9, sB9, sC9]
          refine wpList_nil ?_
          go_wp2
          exact ⟨⟨j + 1, by omega, by go_num, HU.out, B9.out⟩, by simp [RowKit.intOf]; try omega⟩
    · obtain rfl : j = 8 := by omega
      have HE : Hid (OwnU w.heap.size 32 (.slice q8 (4 * 8) c8) wr ∧ Below w.heap.size w wr) := Lib.hid (by
        obtain ⟨F, hF, hl, hr⟩ := U8.out
        refine ⟨⟨F, hF, hl, ?_⟩, B7.out.trans (B8.out.mono (by omega))⟩
        rcases hr with hr | ⟨g, c, cu, e1, e2, e3⟩
        · exact .inl hr
        · exact .inr ⟨g, c, cu, e1, by omega, e3⟩)
      go_wp2
      go_ret
      exact ⟨⟨_, rfl, HE.out.1⟩, HE.out.2⟩
end Go.Proofs.YtmifebcaifbmoaaGreatDoor.Rf1
end
