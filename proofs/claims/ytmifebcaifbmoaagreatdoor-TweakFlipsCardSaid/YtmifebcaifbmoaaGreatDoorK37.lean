/- Parts of the proof of TweakFlips. Rf3: cofferref01: narrow, Sum: 32 bytes. -/
import Derived.Test.YtmifebcaifbmoaaGreatDoorK36
/- Rf3 -/
section
namespace Go.Proofs.YtmifebcaifbmoaaGreatDoor.Rf1
open Go.RowKit Go.Lib Go.Proofs.YtmifebcaifbmoaaGreatDoor.Blk Go.Proofs.YtmifebcaifbmoaaGreatDoor.Dig Go.Proofs.YtmifebcaifbmoaaGreatDoor.Push Go.Proofs.YtmifebcaifbmoaaGreatDoor.Tw

/-- the blocks under way: words h, constants k, words v -/
structure NZ (hb ob kb vb : Nat) (g off n : Nat) (w w' : World) : Prop where
  h : RowP w' hb 125 8 (isInt .u64)
  o : RowP w' ob 125 8 (isInt .u64)
  k : RowP w' kb 183 64 (isInt .u32)
  v : RowP w' vb 185 8 (isInt .u32)
  bu : BU w' (some ⟨g, off, none⟩) n w.heap.size
  cu : WordsAt 4 80 w'
  bel : Below w.heap.size w w'
  d : w.heap.size ≤ hb ∧ hb < ob ∧ ob < kb ∧ kb < vb ∧ 4 < w.heap.size
variable {hb ob kb vb g off n : Nat} {w w1 w2 : World}
theorem NZ.next (h : NZ hb ob kb vb g off n w w1) (hB : Below w1.heap.size w1 w2) : NZ hb ob kb vb g off n w w2 :=
  ⟨h.h.below hB h.h.lt, h.o.below hB h.o.lt, h.k.below hB h.k.lt, h.v.below hB h.v.lt, h.bu.next (fun g off _z _hg hz => (hB.cell (p := ⟨g, off, none⟩) (Frame.block_lt hz)).trans hz) (Nat.le_refl _), h.cu.below hB, h.bel.trans (hB.mono h.bel.size), h.d⟩
theorem NZ.drew (h : NZ hb ob kb vb g off n w w1) : NZ hb ob kb vb g off n w w1.drew := h.next (Below.refl _ _).drew
theorem NZ.putV (h : NZ hb ob kb vb g off n w w1) (hr : RowP w2 vb 185 8 (isInt .u32)) (hg : w1.grownBy w2 (some vb)) : NZ hb ob kb vb g off n w w2 :=
  have d := h.d
  ⟨h.h.other hg (by omega), h.o.other hg (by omega), h.k.other hg (by omega), hr, h.bu.next (fun g off z hg' hz => cell_keep hg (by omega) hz) (Nat.le_refl _), h.cu.keep hg (by omega), h.bel.grown hg h.bel.size (fun j hj => by cases hj; omega), h.d⟩
theorem NZ.putH (h : NZ hb ob kb vb g off n w w1) (hr : RowP w2 hb 125 8 (isInt .u64)) (hg : w1.grownBy w2 (some hb)) : NZ hb ob kb vb g off n w w2 :=
  have d := h.d
  ⟨hr, h.o.other hg (by omega), h.k.other hg (by omega), h.v.other hg (by omega), h.bu.next (fun g off z hg' hz => cell_keep hg (by omega) hz) (Nat.le_refl _), h.cu.keep hg (by omega), h.bel.grown hg h.bel.size (fun j hj => by cases hj; omega), h.d⟩
section
variable {P : Program} {Q : Exit → Act → World → Prop} {a : Act} {w : World} {o : Oper} {K : Act → World → Prop}
theorem w_loadrow (ty : TypeId) (x : Operand) (ho : o.op = .load ty x) (b : Nat) (hx : a.eval x = .pointer (some ⟨b, 0, none⟩)) {t : TypeId} {cs : Array Value} {d : TypeDesc} (hA : w.heap[b]? = some (.cells cs t (0, 0))) (hu : P.underlying ty = some d) (hd : (match d with | .struct _ | .array _ _ => true | _ => false) = true)
    (hi' : (P.info? ty).map (·.size) = some cs.size) (h : K (a.put o.dst (.agg cs)) w) : o.wp P a w K Q :=
  Step.w_run (.agg cs) w (by
    unfold execOp
    simp only [ho, hx, Instr.loadAt, Instr.sureAddr, Sem.run_bind, Sem.run_pure, Result.andThen_ok, run_loadVar_row w b t ty _ _ d hA hu hd hi']) h
end
set_option maxRecDepth 100000 in
set_option maxHeartbeats 8000000 in
theorem narrow_any (hs : Array Value) (hh : Wd .u64 8 hs) (m cap : Nat) (hn : n = 64 * m) (hm : m ≤ 1000) (hm0 : 0 < m) (hcap : n ≤ cap) (hcm : cap ≤ 9223372036854775807) (hb0 : BU w (some ⟨g, off, none⟩) n w.heap.size) (hcu : WordsAt 4 80 w) :
    Calls Tryz.prog 89 #[.agg hs, .slice (some ⟨g, off, none⟩) n cap] w fun e w' => (∃ cs, e = .returned (.agg cs) ∧ Wd .u64 8 cs) ∧ Below w.heap.size w w' := by
  have z64 : (Tryz.prog.info? 183).bind (·.zero) = some (.agg (arr .u32 64 fun _ => 0)) := by kernel_rfl
  have z8 : (Tryz.prog.info? 185).bind (·.zero) = some (.agg (arr .u32 8 fun _ => 0)) := by kernel_rfl
  have z8b : (Tryz.prog.info? 125).bind (·.zero) = some (.agg (arr .u64 8 fun _ => 0)) := by kernel_rfl
  have hi1 : (Tryz.prog.info? 132).map (·.size) = some 1 := by kernel_rfl
  have hi2 : (Tryz.prog.info? 25).map (·.size) = some 1 := by kernel_rfl
  have h8 : (Tryz.prog.info? 185).map (·.size) = some 8 := by kernel_rfl
  have h64 : (Tryz.prog.info? 183).map (·.size) = some 64 := by kernel_rfl
  have h8b : (Tryz.prog.info? 125).map (·.size) = some 8 := by kernel_rfl
  have hcl : 4 < w.heap.size := by obtain ⟨z, hz⟩ := hcu 0 (by decide); exact Frame.block_lt hz
  have B0 := Lib.hid hb0
  have CU := Lib.hid hcu
  have HH := Lib.hid hh
  have HN := Lib.hid hn
  clear hh hb0 hcu hn
  go_enter Tryz.func89, Tryz.ntmps89
  go_upto_region 0 with fail
  refine wp_region_lit ?_
  refine Seg.p_boxA rfl 125 _ rfl hs rfl ?_
  simp only [Act.put, List.setIfInBounds_toArray, List.set_cons_zero, List.set_cons_succ]
  have b1 : Below w.heap.size w (w.alloc (.cells hs 125)) := (Below.refl _ _).alloc (Nat.le_refl _) _
  have r1 : RowP (w.alloc (.cells hs 125)) w.heap.size 125 8 (isInt .u64) := HH.out.row (heap_alloc_new w _)
  have hl1 := r1.lt
  generalize w.alloc (.cells hs 125) = w1 at *
  refine New.p_newarr rfl 125 rfl .u64 8 z8b ?_
  intro w2 a2 g2 s2
  simp only [Act.put, List.setIfInBounds_toArray, List.set_cons_zero, List.set_cons_succ]
  refine wpList_nil ?_
  go_upto_region 1 with fail
  refine wp_region_lit ?_
  refine New.p_newarr rfl 183 rfl .u32 64 z64 ?_
  intro w3 a3 g3 s3
  simp only [Act.put, List.setIfInBounds_toArray, List.set_cons_zero, List.set_cons_succ]
  refine wpList_nil ?_
  obtain ⟨hb, hhb⟩ : ∃ hb, w.heap.size = hb := ⟨_, rfl⟩
  obtain ⟨ob, hob⟩ : ∃ ob, w1.heap.size = ob := ⟨_, rfl⟩
  obtain ⟨kb, hkb⟩ : ∃ kb, w2.heap.size = kb := ⟨_, rfl⟩
  have b13 : Below w1.heap.size w1 w3 := ((Below.refl _ _).grown g2 (Nat.le_refl _) (by simp)).grown g3 (by omega) (by simp)
  have F1 := Lib.hid (r1.below b13 hl1)
  have F2 := Lib.hid ((rowP_of_arr a2).below (Rj.bel_of_gb (_B := 0) g3) (by omega))
  have F3 := Lib.hid (rowP_of_arr a3)
  have F4 := Lib.hid (b1.trans (b13.mono b1.size))
  rw [hhb] at F1
  rw [hob] at F2
  rw [hkb] at F3
  rw [hhb, hob, hkb]
  clear b1 r1 a2 g2 a3 g3 b13 HH
  have hd : hb < ob ∧ ob < kb ∧ kb < w3.heap.size := by omega
  go_wp2
  go_loopw [6] (fun i wr => ∃ j : Nat, j ≤ 64 ∧ i = .int .i64 j ∧ RowP wr kb 183 64 (isInt .u32) ∧ RowP wr hb 125 8 (isInt .u64) ∧ RowP wr ob 125 8 (isInt .u64) ∧ Below w.heap.size w wr ∧ kb < wr.heap.size) (fun i _ => 64 - (Lib.intOf i).toNat)
  case atStart => exact ⟨0, by omega, rfl, F3.out, F1.out, F2.out, F4.out, hd.2.2⟩
  case round =>
    obtain ⟨j, hj, rfl, e1, e2, e3, e4, e5⟩ := hrel
    have G1 := Lib.hid e1
    have G2 := Lib.hid e2
    have G3 := Lib.hid e3
    have G4 := Lib.hid e4
    clear e1 e2 e3 e4 F1 F2 F3 F4
    by_cases hlt : j < 64
    · obtain ⟨x, hx⟩ := CU.out j (by omega)
      have HX := Lib.hid ((G4.out.cell (p := ⟨4, j, none⟩) (Frame.block_lt hx)).trans hx)
      clear hx
      go_upto_region 5 with fail
      refine wp_region_lit ?_
      refine Step.p_move rfl _ rfl (.int .i64 j) rfl ?_
      simp only [Act.put, List.setIfInBounds_toArray, List.set_cons_zero, List.set_cons_succ]
      refine Step.p_move rfl _ rfl (.int .i64 j) rfl ?_
      simp only [Act.put, List.setIfInBounds_toArray, List.set_cons_zero, List.set_cons_succ]
      refine Still.p_idxA rfl _ 25 _ _ rfl 4 0 rfl .i64 j rfl (n := 80) (by omega) Tryz.underlying184 (size := 1) (by kernel_rfl) j (by omega) ?_
      simp only [Act.put, List.setIfInBounds_toArray, List.set_cons_zero, List.set_cons_succ]
      refine Tree.p_load1 rfl _ _ rfl 4 j rfl (.int .u64 x) HX.out Tryz.underlying25 rfl ?_
      simp only [Act.put, List.setIfInBounds_toArray, List.set_cons_zero, List.set_cons_succ]
      refine p_int rfl .u64 (ex_shr _ _ _ _ rfl _ _ _ 32 rfl rfl) ?_
      intro z1
      simp only [Act.put, List.setIfInBounds_toArray, List.set_cons_zero, List.set_cons_succ]
      refine p_int rfl .u32 (ex_conv _ _ _ rfl _ _ _ rfl Tryz.underlying25 Tryz.underlying132) ?_
      intro z2
      simp only [Act.put, List.setIfInBounds_toArray, List.set_cons_zero, List.set_cons_succ]
      refine Still.p_idxA rfl _ 132 _ _ rfl kb 0 rfl .i64 j rfl (n := 64) (by omega) Tryz.underlying183 (size := 1) (by kernel_rfl) j (by omega) ?_
      simp only [Act.put, List.setIfInBounds_toArray, List.set_cons_zero, List.set_cons_succ]
      refine p_storeP rfl 132 _ _ rfl kb j rfl .u32 z2 rfl hi1 G1.out (by omega) ⟨_, rfl⟩ ?_
      intro w5 hr hg2 hs5
      simp only [Act.put]
      refine wpList_nil ?_
      have Q1 := Lib.hid hr
      have Q2 := Lib.hid (G2.out.other hg2 (by omega))
      have Q3 := Lib.hid (G3.out.other hg2 (by omega))
      have Q4 := Lib.hid (G4.out.grown hg2 G4.out.size (fun j hj => by cases hj; omega))
      clear hr hg2 G1 G2 G3 G4 HX
      go_wp2
      exact ⟨⟨j + 1, by omega, by go_num, Q1.out, Q2.out, Q3.out, Q4.out, by omega⟩, by simp [Lib.intOf]; omega⟩
    · obtain rfl : j = 64 := by omega
      go_upto_region 6 with fail
      refine wp_region_lit ?_
      refine New.p_newarr rfl 185 rfl .u32 8 z8 ?_
      intro w6 a6 g6 s6
      simp only [Act.put, List.setIfInBounds_toArray, List.set_cons_zero, List.set_cons_succ]
      refine wpList_nil ?_
      obtain ⟨vb, hvb⟩ : ∃ vb, wr.heap.size = vb := ⟨_, rfl⟩
      rw [hvb] at a6 ⊢
      have Z6 : Hid (NZ hb ob kb vb g off n w w6) := Lib.hid ⟨G2.out.below (Rj.bel_of_gb (_B := 0) g6) (by omega), G3.out.below (Rj.bel_of_gb (_B := 0) g6) (by omega), G1.out.below (Rj.bel_of_gb (_B := 0) g6) (by omega), rowP_of_arr a6,
        B0.out.next (fun g' o' z hg' hz => (((Rj.bel_of_gb (_B := 0) g6).cell (p := ⟨g', o', none⟩) (by have := G4.out.size; show g' < _; omega)).trans (G4.out.cell (p := ⟨g', o', none⟩) hg')).trans hz) (Nat.le_refl _), (CU.out.below G4.out).below (Rj.bel_of_gb (_B := 0) g6), G4.out.trans ((Rj.bel_of_gb (_B := 0) g6).mono G4.out.size), by omega⟩
      clear a6 g6 G1 G2 G3 G4 B0 CU
      go_wp2
      go_loopw [8] (fun i wr => ∃ j : Nat, j ≤ 8 ∧ i = .int .i64 j ∧ NZ hb ob kb vb g off n w wr) (fun i _ => 8 - (Lib.intOf i).toNat)
      case atStart => exact ⟨0, by omega, rfl, Z6.out⟩
      case round =>
        obtain ⟨j, hj, rfl, hz⟩ := hrel
        have Z7 := Lib.hid hz
        clear hz Z6
        by_cases hlt : j < 8
        · obtain ⟨x, hx⟩ := Z7.out.h.num (j := j) (by omega)
          have HX := Lib.hid hx
          clear hx
          go_upto_region 10 with fail
          refine wp_region_lit ?_
          refine Step.p_move rfl _ rfl (.int .i64 j) rfl ?_
          simp only [Act.put, List.setIfInBounds_toArray, List.set_cons_zero, List.set_cons_succ]
          refine Step.p_move rfl _ rfl (.int .i64 j) rfl ?_
          simp only [Act.put, List.setIfInBounds_toArray, List.set_cons_zero, List.set_cons_succ]
          refine Still.p_idxA rfl _ 25 _ _ rfl hb 0 rfl .i64 j rfl (n := 8) (by omega) Tryz.underlying125 (size := 1) (by kernel_rfl) j (by omega) ?_
          simp only [Act.put, List.setIfInBounds_toArray, List.set_cons_zero, List.set_cons_succ]
          refine Tree.p_load1 rfl _ _ rfl hb j rfl (.int .u64 x) HX.out Tryz.underlying25 rfl ?_
          simp only [Act.put, List.setIfInBounds_toArray, List.set_cons_zero, List.set_cons_succ]
          refine p_int rfl .u32 (ex_conv _ _ _ rfl _ _ _ rfl Tryz.underlying25 Tryz.underlying132) ?_
          intro z2
          simp only [Act.put, List.setIfInBounds_toArray, List.set_cons_zero, List.set_cons_succ]
          refine Still.p_idxA rfl _ 132 _ _ rfl vb 0 rfl .i64 j rfl (n := 8) (by omega) Tryz.underlying185 (size := 1) (by kernel_rfl) j (by omega) ?_
          simp only [Act.put, List.setIfInBounds_toArray, List.set_cons_zero, List.set_cons_succ]
          refine p_storeP rfl 132 _ _ rfl vb j rfl .u32 z2 rfl hi1 Z7.out.v (by omega) ⟨_, rfl⟩ ?_
          intro w5 hr hg2 _
          simp only [Act.put]
          refine wpList_nil ?_
          have Z8 := Lib.hid (Z7.out.putV hr hg2)
          clear hr hg2 Z7 HX
          go_wp2
          exact ⟨⟨j + 1, by omega, by go_num, Z8.out⟩, by simp [Lib.intOf]; omega⟩
        · obtain rfl : j = 8 := by omega
          go_wp2
          go_loopw [9] (fun i wr => ∃ j : Nat, j ≤ m ∧ i = .int .i64 (64 * j : Nat) ∧ NZ hb ob kb vb g off n w wr) (fun i _ => n - (Lib.intOf i).toNat)
          case atStart => exact ⟨0, by omega, rfl, Z7.out⟩
          case round =>
            obtain ⟨j, hj, rfl, hz⟩ := hrel
            have Z9 := Lib.hid hz
            clear hz Z7
            by_cases hlt : j < m
            · have hnj : 64 * j + 64 ≤ n := by have := HN.out; omega
              have hnj2 : (64 * (j : Int)) < n := by omega
              go_upto_region 14 with fail
              refine Step.begin_ (S := fun w' => wr.grownBy w' (some vb)) 9 rfl (by kernel_rfl) (gb_drew (gb_refl wr _)) ?_
              intro hSS
              have SX := Lib.hid hSS
              clear hSS
              obtain ⟨ks, hks, hkw⟩ := Wd.ofRow Z9.out.k
              obtain ⟨vs, hvs, hvw⟩ := Wd.ofRow Z9.out.v
              have hd9 := Z9.out.d
              have KS : Hid (∀ w', wr.grownBy w' (some vb) → w'.heap[kb]? = some (.cells ks 183 (0, 0))) := Lib.hid fun w' h => (h.block kb (Array.getElem?_eq_some_iff.1 hks).1 (fun e => by have := Option.some.inj e; omega)).trans hks
              have VS : Hid (wr.drew.heap[vb]? = some (.cells vs 185 (0, 0))) := Lib.hid hvs
              have TK := Lib.hid (fun w' (h : Below wr.heap.size wr w') => taken_any vs ks hvw hkw (some ⟨g, off + 64 * j, none⟩) (cap - 64 * j) (by omega) (by omega) w' (fun i hi => by
                obtain ⟨g', o', e, hl, z, hz⟩ := Z9.out.bu (64 * j + i) (by omega)
                cases e
                exact ⟨g, off + 64 * j, rfl, Nat.lt_of_lt_of_le hl (Nat.le_trans Z9.out.bel.size h.size), z, by rw [Nat.add_assoc]; exact (h.cell (p := ⟨g, off + (64 * j + i), none⟩) (Frame.block_lt hz)).trans hz⟩))
              have hksz : (Tryz.prog.info? 183).map (·.size) = some ks.size := by rw [hkw.1]; exact h64
              have hvsz : (Tryz.prog.info? 185).map (·.size) = some vs.size := by rw [hvw.1]; exact h8
              have hvs8 := hvw.1
              clear hks hvs hkw hvw
              refine Step.t_move (i := 1) rfl rfl (by kernel_rfl) (by kernel_rfl) (by kernel_rfl) SX.out _ rfl (.slice (some ⟨g, off, none⟩) n cap) rfl ?_
              simp only [Act.put, List.setIfInBounds_toArray, List.set_cons_zero, List.set_cons_succ]
              refine Step.t_move (i := 2) rfl rfl (by kernel_rfl) (by kernel_rfl) (by kernel_rfl) SX.out _ rfl (.int .i64 (64 * j : Nat)) rfl ?_
              simp only [Act.put, List.setIfInBounds_toArray, List.set_cons_zero, List.set_cons_succ]
              refine Step.t_move (i := 3) rfl rfl (by kernel_rfl) (by kernel_rfl) (by kernel_rfl) SX.out _ rfl (.int .i64 (64 * j : Nat)) rfl ?_
              simp only [Act.put, List.setIfInBounds_toArray, List.set_cons_zero, List.set_cons_succ]
              refine Dig.t_loadrow (i := 6) rfl rfl (by kernel_rfl) (by kernel_rfl) (by kernel_rfl) SX.out _ _ rfl kb rfl KS.out Tryz.underlying183 rfl hksz ?_
              simp only [Act.put, List.setIfInBounds_toArray, List.set_cons_zero, List.set_cons_succ]
              refine Step.t_val (i := 4) rfl rfl (by kernel_rfl) (by kernel_rfl) (by kernel_rfl) SX.out (.int .i64 (64 * j + 64 : Nat)) (fun w' _ => by unfold execOp; go_simp; try (first | rfl | omega | exact (IntWalk.i64_in _ (by omega)).trans (by omega) | exact IntWalk.i64_in _ (by omega))) ?_
              simp only [Act.put, List.setIfInBounds_toArray, List.set_cons_zero, List.set_cons_succ]
              refine Step.t_val (i := 5) rfl rfl (by kernel_rfl) (by kernel_rfl) (by kernel_rfl) SX.out (.slice (some ⟨g, off + 64 * j, none⟩) 64 (cap - 64 * j)) (fun w' _ => by unfold execOp; go_simp; rw [if_pos ⟨by omega, by omega⟩, if_pos ⟨by omega, by omega⟩, show (64 * (j : Int)).toNat = 64 * j by omega, show (64 * (j : Int) + 64).toNat = 64 * j + 64 by omega, if_neg (by omega), show 64 * j + 64 - 64 * j = 64 by omega]) ?_
              simp only [Act.put, List.setIfInBounds_toArray, List.set_cons_zero, List.set_cons_succ]
              refine Step.t_one (i := 0) rfl rfl (by kernel_rfl) ?_
              refine w_loadrow _ _ rfl vb rfl VS.out Tryz.underlying185 rfl hvsz ?_
              refine ⟨SX.out, ?_⟩
              simp only [Act.put, List.setIfInBounds_toArray, List.set_cons_zero, List.set_cons_succ]
              refine Step.t_one (i := 7) rfl rfl (by kernel_rfl) ?_
              refine Step.w_callx 144 _ _ rfl Tryz.func144 (by kernel_rfl) rfl [.agg vs, .slice (some ⟨g, off + 64 * j, none⟩) 64 (cap - 64 * j), .agg ks] rfl (TK.out _ (Below.refl _ _).drew) ?_
              rintro e wt ⟨⟨cs, rfl, hcw⟩, hB⟩
              have BT : Hid (Below wr.heap.size wr wt) := Lib.hid ((Below.refl wr.heap.size wr).drew.trans hB)
              have CW := Lib.hid hcw
              have SY := Lib.hid (gb_bel SX.out hB)
              have VT := Lib.hid ((hB.block vb (Array.getElem?_eq_some_iff.1 VS.out).1).trans VS.out)
              clear hB hcw SX VS
              refine ⟨_, rfl, SY.out, ?_⟩
              simp only [Act.put, List.setIfInBounds_toArray, List.set_cons_zero, List.set_cons_succ]
              refine Step.t_one (i := 8) rfl rfl (by kernel_rfl) ?_
              refine Dig.w_storerow rfl 185 _ _ rfl vb rfl cs rfl (by rw [CW.out.1]; exact h8) CW.out.2.2 VT.out (by rw [CW.out.1, hvs8]) ?_
              intro wu hr hg2
              have ZA := Lib.hid ((Z9.out.next BT.out).putV (CW.out.row hr) hg2)
              refine ⟨gb_trans SY.out hg2, ?_⟩
              clear hr hg2 SY VT
              simp only [Act.put]
              refine Step.t_end (by kernel_rfl) ?_
              go_wp2
              exact ⟨⟨j + 1, by omega, by go_num, ZA.out⟩, by simp [Lib.intOf]; omega⟩
            · obtain rfl : j = m := by omega
              have hnj : n = 64 * j := HN.out
              have hnj2 : ¬ (64 * (j : Int)) < n := by omega
              go_wp2
              go_loopw [10] (fun i wr => ∃ j : Nat, j ≤ 8 ∧ i = .int .i64 j ∧ NZ hb ob kb vb g off n w wr) (fun i _ => 8 - (Lib.intOf i).toNat)
              case atStart => exact ⟨0, by omega, rfl, Z9.out⟩
              case round =>
                obtain ⟨j2, hj2, rfl, hz⟩ := hrel
                have ZB := Lib.hid hz
                clear hz Z9
                by_cases hlt2 : j2 < 8
                · obtain ⟨x, hx⟩ := ZB.out.v.num (j := j2) (by omega)
                  have HX := Lib.hid hx
                  clear hx
                  go_upto_region 18 with fail
                  refine wp_region_lit ?_
                  refine Step.p_move rfl _ rfl (.int .i64 j2) rfl ?_
                  simp only [Act.put, List.setIfInBounds_toArray, List.set_cons_zero, List.set_cons_succ]
                  refine Step.p_move rfl _ rfl (.int .i64 j2) rfl ?_
                  simp only [Act.put, List.setIfInBounds_toArray, List.set_cons_zero, List.set_cons_succ]
                  refine Still.p_idxA rfl _ 132 _ _ rfl vb 0 rfl .i64 j2 rfl (n := 8) (by omega) Tryz.underlying185 (size := 1) (by kernel_rfl) j2 (by omega) ?_
                  simp only [Act.put, List.setIfInBounds_toArray, List.set_cons_zero, List.set_cons_succ]
                  refine Tree.p_load1 rfl _ _ rfl vb j2 rfl (.int .u32 x) HX.out Tryz.underlying132 rfl ?_
                  simp only [Act.put, List.setIfInBounds_toArray, List.set_cons_zero, List.set_cons_succ]
                  refine p_int rfl .u64 (ex_conv _ _ _ rfl _ _ _ rfl Tryz.underlying132 Tryz.underlying25) ?_
                  intro z2
                  simp only [Act.put, List.setIfInBounds_toArray, List.set_cons_zero, List.set_cons_succ]
                  refine Still.p_idxA rfl _ 25 _ _ rfl hb 0 rfl .i64 j2 rfl (n := 8) (by omega) Tryz.underlying125 (size := 1) (by kernel_rfl) j2 (by omega) ?_
                  simp only [Act.put, List.setIfInBounds_toArray, List.set_cons_zero, List.set_cons_succ]
                  refine p_storeP rfl 25 _ _ rfl hb j2 rfl .u64 z2 rfl hi2 ZB.out.h (by omega) ⟨_, rfl⟩ ?_
                  intro w5 hr hg2 _
                  simp only [Act.put]
                  refine wpList_nil ?_
                  have ZC := Lib.hid (ZB.out.putH hr hg2)
                  clear hr hg2 ZB HX
                  go_wp2
                  exact ⟨⟨j2 + 1, by omega, by go_num, ZC.out⟩, by simp [Lib.intOf]; omega⟩
                · obtain rfl : j2 = 8 := by omega
                  obtain ⟨cs, hcs, hcw⟩ := Wd.ofRow ZB.out.h
                  obtain ⟨co, hco, hco8, _⟩ := ZB.out.o
                  have CW := Lib.hid hcw
                  have hsz : (Tryz.prog.info? 125).map (·.size) = some cs.size := by rw [hcw.1]; exact h8b
                  have hd9 := ZB.out.d
                  clear hcw
                  go_upto_region 19 with fail
                  refine wp_region_lit ?_
                  refine Tree.p_loadrow rfl _ _ rfl hb rfl hcs Tryz.underlying125 rfl hsz ?_
                  simp only [Act.put, List.setIfInBounds_toArray, List.set_cons_zero, List.set_cons_succ]
                  refine Cell.p_storerow rfl 125 _ _ rfl ob rfl cs rfl hsz CW.out.2.2 hco (by rw [CW.out.1, hco8]) ?_
                  intro w5 hr5 hg5 _
                  simp only [Act.put]
                  refine wpList_nil ?_
                  have B5 := Lib.hid (ZB.out.bel.grown hg5 ZB.out.bel.size (fun j hj => by cases hj; omega))
                  clear hg5
                  go_wp2
                  exact Cell.ret_row rfl rfl hr5 Tryz.underlying125 rfl hsz rfl ⟨⟨cs, rfl, CW.out⟩, B5.out⟩
end Go.Proofs.YtmifebcaifbmoaaGreatDoor.Rf1
end
