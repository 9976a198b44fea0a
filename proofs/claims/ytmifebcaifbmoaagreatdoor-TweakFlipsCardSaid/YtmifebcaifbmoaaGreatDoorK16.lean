/- Parts of the proof of TweakFlips. Boxes: cofferref02.Boxes: two tables of bytes. G0: Ciphers told by what they do: what stays where only bytes change; keys, starts, runs, sealings as contracts. General. G1: tweak: Seal and Open of a cipher told by its runs. -/
import Derived.Test.YtmifebcaifbmoaaGreatDoorK15
import Derived.Test.YtmifebcaifbmoaaGreatDoorK14
/- Boxes -/
section
namespace Go.Proofs.YtmifebcaifbmoaaGreatDoor.Ref2
open Go.RowKit Go.Lib Go.Proofs.YtmifebcaifbmoaaGreatDoor.Blk Go.Proofs.YtmifebcaifbmoaaGreatDoor.Aes

theorem ret_two {P : Program} {fn : Func} {p u : Tmp} {ty : TypeId} {a : Act} {w : World} {R : Ending → World → Prop} {b c : Nat} {k : IntKind} {n : Nat} {t : TypeId} {f g : Nat → Int} {d : TypeDesc} (h : fn.results = #[.cell p ty, .cell u ty])
    (hp : a.tmps.getD p undef = .pointer (some ⟨b, 0, none⟩)) (hu' : a.tmps.getD u undef = .pointer (some ⟨c, 0, none⟩)) (hA : Arr w b k n t f) (hB : Arr w c k n t g) (hu : P.underlying ty = some d) (hd : (match d with | .struct _ | .array _ _ => true | _ => false) = true)
    (hi : (P.info? ty).map (·.size) = some n) (hdf : a.defers = []) (hR : R (.returned (.tuple #[.agg (arr k n f), .agg (arr k n g)])) w) : bodyPost P fn R .ret a w := by
  refine bodyPost_ret (v := .tuple #[.agg (arr k n f), .agg (arr k n g)]) ?_ hdf hR
  have e1 := run_loadVar_row w b t ty _ _ d hA hu hd (by rw [arr_size]; exact hi)
  have e2 := run_loadVar_row w c t ty _ _ d hB hu hd (by rw [arr_size]; exact hi)
  have q1 : a.tmps[p]?.getD undef = .pointer (some ⟨b, 0, none⟩) := by simpa using hp
  have q2 : a.tmps[u]?.getD undef = .pointer (some ⟨c, 0, none⟩) := by simpa using hu'
  have p1 : (asAddr (a.tmps[p]?.getD undef)).run P w = .ok ⟨b, 0, none⟩ w := by rw [q1]; rfl
  have p2 : (asAddr (a.tmps[u]?.getD undef)).run P w = .ok ⟨c, 0, none⟩ w := by rw [q2]; rfl
  simp only [results, h]
  simp [Sem.run_bind, Result.andThen, p1, p2, e1, e2]

structure BxW (f g : Nat → Nat) (B : Nat) (w w' : World) : Prop where
  a : Arr w' B .u8 256 175 (fun _ => 0)
  b : Arr w' (B + 1) .u8 256 175 (fun _ => 0)
  s : Arr w' (B + 1 + 1) .u8 256 175 (fun i => (f i : Nat))
  u : Arr w' (B + 1 + 1 + 1) .u8 256 175 (fun i => (g i : Nat))
  bel : Below B w w'
  fb : ∀ i, f i < 256
  gb : ∀ i, g i < 256
def updN (f : Nat → Nat) (i v : Nat) (x : Nat) : Nat := if x = i then v else f x
theorem upd_nat (f : Nat → Nat) (i v : Nat) : upd (fun x => ((f x : Nat) : Int)) i (v : Nat) = fun x => ((updN f i v x : Nat) : Int) := by
  funext x
  unfold upd updN
  split <;> rfl
theorem updN_lt {f : Nat → Nat} (hf : ∀ i, f i < 256) {v : Nat} (hv : v < 256) (i x : Nat) : updN f i v x < 256 := by
  unfold updN
  split
  · exact hv
  · exact hf x
theorem BxW.setS {f g : Nat → Nat} {B : Nat} {w w1 : World} (h : BxW f g B w w1) (i v : Nat) (hv : v < 256) : BxW (updN f i v) g B w (w1.setCell ⟨B + 1 + 1, i, none⟩ (.int .u8 v)) :=
  ⟨h.a.other (by show B ≠ B + 1 + 1; omega) _, h.b.other (by show B + 1 ≠ B + 1 + 1; omega) _, by have := h.s.store i v; rwa [upd_nat] at this, h.u.other (by show B + 1 + 1 + 1 ≠ B + 1 + 1; omega) _, h.bel.setCell (by show B ≤ B + 1 + 1; omega) _, updN_lt h.fb hv i, h.gb⟩
theorem BxW.setU {f g : Nat → Nat} {B : Nat} {w w1 : World} (h : BxW f g B w w1) (i v : Nat) (hv : v < 256) : BxW f (updN g i v) B w (w1.setCell ⟨B + 1 + 1 + 1, i, none⟩ (.int .u8 v)) :=
  ⟨h.a.other (by show B ≠ B + 1 + 1 + 1; omega) _, h.b.other (by show B + 1 ≠ B + 1 + 1 + 1; omega) _, h.s.other (by show B + 1 + 1 ≠ B + 1 + 1 + 1; omega) _, by have := h.u.store i v; rwa [upd_nat] at this, h.bel.setCell (by show B ≤ B + 1 + 1 + 1; omega) _, h.fb, updN_lt h.gb hv i⟩
theorem sD8 (y : Nat) : sD y 8 < 256 := sD_lt y 8

set_option maxRecDepth 100000 in
set_option maxHeartbeats 4000000 in
theorem boxes_any (w : World) : Calls Tryz.prog 142 #[] w fun e w' => ∃ f g : Nat → Nat, e = .returned (.tuple #[.agg (arr .u8 256 fun i => (f i : Nat)), .agg (arr .u8 256 fun i => (g i : Nat))]) ∧ (∀ i, f i < 256) ∧ (∀ i, g i < 256) ∧ Below w.heap.size w w' := by
  have z256 : (Tryz.prog.info? 175).bind (·.zero) = some (.agg (arr .u8 256 fun _ => 0)) := by kernel_rfl
  have i256 : (Tryz.prog.info? 175).map (·.size) = some 256 := by kernel_rfl
  have TM := Lib.hid (fun a b ha hb w => refTimes_any a b ha hb w)
  have BT := Lib.hid (fun y hy w => refBits_any y hy w)
  go_enter Tryz.func142, Tryz.ntmps142
  go_upto_region 0 with fail
  refine wp_region_lit ?_
  refine New.p_newarr rfl 175 rfl .u8 256 z256 ?_
  intro w1 a1 g1 s1
  simp only [Act.put, List.setIfInBounds_toArray, List.set_cons_zero]
  refine New.p_newarr rfl 175 rfl .u8 256 z256 ?_
  intro w2 a2 g2 s2
  simp only [Act.put, List.setIfInBounds_toArray, List.set_cons_zero, List.set_cons_succ]
  refine wpList_nil ?_
  go_upto_region 1 with fail
  refine wp_region_lit ?_
  refine New.p_newarr rfl 175 rfl .u8 256 z256 ?_
  intro w3 a3 g3 s3
  simp only [Act.put, List.setIfInBounds_toArray, List.set_cons_zero, List.set_cons_succ]
  refine wpList_nil ?_
  go_upto_region 2 with fail
  refine wp_region_lit ?_
  refine New.p_newarr rfl 175 rfl .u8 256 z256 ?_
  intro w4 a4 g4 s4
  simp only [Act.put, List.setIfInBounds_toArray, List.set_cons_zero, List.set_cons_succ]
  refine wpList_nil ?_
  rw [s3, s2, s1] at a4 ⊢
  rw [s2, s1] at a3
  rw [s1] at a2
  have E4 : Hid (BxW (fun _ => 0) (fun _ => 0) w.heap.size w w4) := Lib.hid ⟨Rj.bel_arr (_B := 0) (Rj.bel_arr (_B := 0) (Rj.bel_arr (_B := 0) a1 (Rj.bel_of_gb (_B := 0) g2)) (Rj.bel_of_gb (_B := 0) g3)) (Rj.bel_of_gb (_B := 0) g4), Rj.bel_arr (_B := 0) (Rj.bel_arr (_B := 0) a2 (Rj.bel_of_gb (_B := 0) g3)) (Rj.bel_of_gb (_B := 0) g4), Rj.bel_arr (_B := 0) a3 (Rj.bel_of_gb (_B := 0) g4), a4, ((((Below.refl w.heap.size w).grown g1 (Nat.le_refl _) (by simp)).grown g2 (by omega) (by simp)).grown g3 (by omega) (by simp)).grown g4 (by omega) (by simp), fun _ => by decide, fun _ => by decide⟩
  clear a1 g1 s1 a2 g2 s2 a3 g3 s3 a4 g4 s4
  go_wp2
  go_loopw [6, 4, 5] (fun i b y wr => ∃ (k b0 y0 : Nat) (f : Nat → Nat), k ≤ 255 ∧ i = .int .i64 k ∧ b = .int .u8 b0 ∧ b0 < 256 ∧ y = .int .u8 y0 ∧ y0 < 256 ∧ BxW f (fun _ => 0) w.heap.size w wr) (fun i _ _ _ => 255 - (Lib.intOf i).toNat)
  case atStart => exact ⟨0, 1, 1, _, by omega, rfl, rfl, by decide, rfl, by decide, E4.out⟩
  case round =>
    obtain ⟨k, b0, y0, f, hk, rfl, rfl, hb0, rfl, hy0, hr⟩ := hrel
    have H := Lib.hid hr
    clear hr E4
    by_cases hlt : k < 255
    · go_upto_region 8 with fail
      refine wp_region_lit ?_
      refine Step.p_move rfl _ rfl (.int .u8 b0) rfl ?_
      simp only [Act.put, List.setIfInBounds_toArray, List.set_cons_zero, List.set_cons_succ]
      refine Step.p_move rfl _ rfl (.int .u8 y0) rfl ?_
      simp only [Act.put, List.setIfInBounds_toArray, List.set_cons_zero, List.set_cons_succ]
      refine Step.p_val rfl (.int .i64 y0) (by unfold execOp; go_simp; try exact IntWalk.i64_in _ (by omega)) ?_
      simp only [Act.put, List.setIfInBounds_toArray, List.set_cons_zero, List.set_cons_succ]
      refine Step.p_wp rfl (Step.w_callx 169 [.tmp 14] _ rfl Tryz.func169 (by kernel_rfl) rfl [.int .i64 y0] rfl (BT.out y0 hy0 _) ?_)
      rintro e w5 ⟨rfl, rfl⟩
      refine ⟨_, rfl, ?_⟩
      simp only [Act.put, List.setIfInBounds_toArray, List.set_cons_zero, List.set_cons_succ]
      refine Still.p_idxA rfl _ 5 _ _ rfl (w.heap.size + 1 + 1) 0 rfl .u8 b0 rfl hb0 Tryz.underlying175 (size := 1) (by kernel_rfl) b0 (by omega) ?_
      simp only [Act.put, List.setIfInBounds_toArray, List.set_cons_zero, List.set_cons_succ]
      refine Still.p_storeA rfl 5 _ _ rfl (w.heap.size + 1 + 1) b0 rfl .u8 (sD y0 8 : Nat) rfl H.out.s hb0 (by kernel_rfl) ?_
      simp only [Act.put]
      refine wpList_nil ?_
      have H2 := Lib.hid (H.out.setS b0 (sD y0 8) (sD8 y0))
      clear H
      generalize wr.setCell ⟨w.heap.size + 1 + 1, b0, none⟩ (.int .u8 (sD y0 8 : Nat)) = w6 at *
      go_upto_region 9 with fail
      refine wp_region_lit ?_
      refine Step.p_move rfl _ rfl (.int .u8 b0) rfl ?_
      simp only [Act.put, List.setIfInBounds_toArray, List.set_cons_zero, List.set_cons_succ]
      refine Step.p_wp rfl (Step.w_callx 143 [.tmp 17, .const (.int .u8 3)] _ rfl Tryz.func143 (by kernel_rfl) rfl [.int .u8 b0, .int .u8 3] rfl (TM.out b0 3 hb0 (by decide) _) ?_)
      rintro e w7 ⟨rfl, rfl⟩
      refine ⟨_, rfl, ?_⟩
      simp only [Act.put, List.setIfInBounds_toArray, List.set_cons_zero, List.set_cons_succ]
      refine Step.p_assign rfl _ rfl (.int .u8 (dT b0 3 : Nat)) rfl ?_
      simp only [Act.put, List.setIfInBounds_toArray, List.set_cons_zero, List.set_cons_succ]
      refine wpList_nil ?_
      go_upto_region 10 with fail
      refine wp_region_lit ?_
      refine Step.p_move rfl _ rfl (.int .u8 y0) rfl ?_
      simp only [Act.put, List.setIfInBounds_toArray, List.set_cons_zero, List.set_cons_succ]
      refine Step.p_wp rfl (Step.w_callx 143 [.tmp 19, .const (.int .u8 246)] _ rfl Tryz.func143 (by kernel_rfl) rfl [.int .u8 y0, .int .u8 246] rfl (TM.out y0 246 hy0 (by decide) _) ?_)
      rintro e w8 ⟨rfl, rfl⟩
      refine ⟨_, rfl, ?_⟩
      simp only [Act.put, List.setIfInBounds_toArray, List.set_cons_zero, List.set_cons_succ]
      refine Step.p_assign rfl _ rfl (.int .u8 (dT y0 246 : Nat)) rfl ?_
      simp only [Act.put, List.setIfInBounds_toArray, List.set_cons_zero, List.set_cons_succ]
      refine wpList_nil ?_
      go_wp2
      exact ⟨⟨k + 1, _, _, _, by omega, by go_num, rfl, dT_lt _ _, rfl, dT_lt _ _, H2.out⟩, by simp [Lib.intOf]; omega⟩
    · go_upto_region 11 with fail
      refine wp_region_lit ?_
      refine Step.p_wp rfl (Step.w_callx 169 [.const (.int .i64 0)] _ rfl Tryz.func169 (by kernel_rfl) rfl [.int .i64 0] rfl (BT.out 0 (by decide) _) ?_)
      rintro e w5 ⟨rfl, rfl⟩
      refine ⟨_, rfl, ?_⟩
      simp only [Act.put, List.setIfInBounds_toArray, List.set_cons_zero, List.set_cons_succ]
      refine Still.p_idxA rfl _ 5 _ _ rfl (w.heap.size + 1 + 1) 0 rfl .i64 0 rfl (by decide) Tryz.underlying175 (size := 1) (by kernel_rfl) 0 (by omega) ?_
      simp only [Act.put, List.setIfInBounds_toArray, List.set_cons_zero, List.set_cons_succ]
      refine Still.p_storeA rfl 5 _ _ rfl (w.heap.size + 1 + 1) 0 rfl .u8 (sD 0 8 : Nat) rfl H.out.s (by decide) (by kernel_rfl) ?_
      simp only [Act.put]
      refine wpList_nil ?_
      have H2 := Lib.hid (H.out.setS 0 (sD 0 8) (sD8 0))
      clear H
      generalize wr.setCell ⟨w.heap.size + 1 + 1, 0, none⟩ (.int .u8 (sD 0 8 : Nat)) = w6 at *
      generalize updN f 0 (sD 0 8) = f2 at *
      go_wp2
      go_loopw [7] (fun i wr => ∃ (k : Nat) (g : Nat → Nat), k ≤ 256 ∧ i = .int .i64 k ∧ BxW f2 g w.heap.size w wr) (fun i _ => 256 - (Lib.intOf i).toNat)
      case atStart => exact ⟨0, _, by omega, rfl, H2.out⟩
      case round =>
        obtain ⟨k, g, hk, rfl, hr⟩ := hrel
        have H := Lib.hid hr
        clear hr H2
        by_cases hlt2 : k < 256
        · have hv := H.out.fb k
          have hc := H.out.s.cell (i := k) hlt2
          generalize hfk : f2 k = v at *
          have HC := Lib.hid hc
          clear hc hfk
          go_upto_region 15 with fail
          refine wp_region_lit ?_
          refine Step.p_move rfl _ rfl (.int .i64 k) rfl ?_
          simp only [Act.put, List.setIfInBounds_toArray, List.set_cons_zero, List.set_cons_succ]
          refine Still.p_idxA rfl _ 5 _ _ rfl (w.heap.size + 1 + 1) 0 rfl .i64 k rfl hlt2 Tryz.underlying175 (size := 1) (by kernel_rfl) k (by omega) ?_
          simp only [Act.put, List.setIfInBounds_toArray, List.set_cons_zero, List.set_cons_succ]
          refine Tree.p_load1 rfl _ _ rfl (w.heap.size + 1 + 1) (k) rfl (.int .u8 (v : Nat)) (HC.out) Tryz.underlying5 rfl ?_
          simp only [Act.put, List.setIfInBounds_toArray, List.set_cons_zero, List.set_cons_succ]
          refine Step.p_move rfl _ rfl (.int .i64 k) rfl ?_
          simp only [Act.put, List.setIfInBounds_toArray, List.set_cons_zero, List.set_cons_succ]
          refine Step.p_val rfl (.int .u8 (k : Nat)) (by unfold execOp; go_simp; try (rw [IntKind.wrap_u8]; omega)) ?_
          simp only [Act.put, List.setIfInBounds_toArray, List.set_cons_zero, List.set_cons_succ]
          refine Still.p_idxA rfl _ 5 _ _ rfl (w.heap.size + 1 + 1 + 1) 0 rfl .u8 v rfl hv Tryz.underlying175 (size := 1) (by kernel_rfl) v (by omega) ?_
          simp only [Act.put, List.setIfInBounds_toArray, List.set_cons_zero, List.set_cons_succ]
          refine Still.p_storeA rfl 5 _ _ rfl (w.heap.size + 1 + 1 + 1) v rfl .u8 (k : Nat) rfl H.out.u hv (by kernel_rfl) ?_
          simp only [Act.put]
          refine wpList_nil ?_
          have H2 := Lib.hid (H.out.setU v k hlt2)
          clear H
          go_wp2
          exact ⟨⟨k + 1, _, by omega, by go_num, H2.out⟩, by simp [Lib.intOf]; omega⟩
        · go_upto_region 16 with fail
          refine Step.begin_ (S := fun w' => Arr w' (w.heap.size + 1 + 1) .u8 256 175 (fun i => (f2 i : Nat)) ∧ Arr w' (w.heap.size + 1 + 1 + 1) .u8 256 175 (fun i => (g i : Nat))) 4 rfl (by kernel_rfl) ⟨H.out.s, H.out.u⟩ ?_
          intro hS
          have H1 : Hid (BxW f2 g w.heap.size w wr.drew) := Lib.hid ⟨H.out.a, H.out.b, H.out.s, H.out.u, H.out.bel.drew, H.out.fb, H.out.gb⟩
          clear H
          refine Step.t_load (i := 0) rfl rfl (by kernel_rfl) (by kernel_rfl) (by kernel_rfl) hS _ _ rfl _ rfl (fun w' h => h.1) Tryz.underlying175 rfl i256 ?_
          simp only [Act.put, List.setIfInBounds_toArray, List.set_cons_zero, List.set_cons_succ]
          refine Step.t_load (i := 1) rfl rfl (by kernel_rfl) (by kernel_rfl) (by kernel_rfl) hS _ _ rfl _ rfl (fun w' h => h.2) Tryz.underlying175 rfl i256 ?_
          simp only [Act.put, List.setIfInBounds_toArray, List.set_cons_zero, List.set_cons_succ]
          clear hS
          refine Step.t_one (i := 2) rfl rfl (by kernel_rfl) ?_
          refine wp_store_row 175 _ _ rfl w.heap.size _ rfl rfl _ _ H1.out.a (by rw [arr_size]; exact i256) (by rw [arr_size, arr_size]) (arr_one _ _ _) ?_
          have hA := Rj.Arr_of_row (f := fun i => ((f2 i : Nat) : Int)) H1.out.a
          have hG := Rj.gb_setRow wr.drew w.heap.size (arr .u8 256 fun i => ((f2 i : Nat) : Int))
          generalize wr.drew.setRow w.heap.size (arr .u8 256 fun i => ((f2 i : Nat) : Int)) = w5 at *
          have B5 := H1.out.bel.grown hG H1.out.bel.size (fun j hj => by cases hj; exact Nat.le_refl _)
          have s5 := H1.out.s.grown hG (by omega)
          have u5 := H1.out.u.grown hG (by omega)
          have b5 := H1.out.b.grown hG (by omega)
          refine ⟨⟨s5, u5⟩, ?_⟩
          simp only [Act.put]
          refine Step.t_one (i := 3) rfl rfl (by kernel_rfl) ?_
          refine wp_store_row 175 _ _ rfl (w.heap.size + 1) _ rfl rfl _ _ b5 (by rw [arr_size]; exact i256) (by rw [arr_size, arr_size]) (arr_one _ _ _) ?_
          have hA2 := Rj.Arr_of_row (f := fun i => ((g i : Nat) : Int)) b5
          have hG2 := Rj.gb_setRow w5 (w.heap.size + 1) (arr .u8 256 fun i => ((g i : Nat) : Int))
          generalize w5.setRow (w.heap.size + 1) (arr .u8 256 fun i => ((g i : Nat) : Int)) = w6 at *
          have HA1 := Lib.hid (hA.grown hG2 (by omega))
          have HA2 := Lib.hid hA2
          have B6 := Lib.hid (B5.grown hG2 B5.size (fun j hj => by cases hj; omega))
          refine ⟨⟨s5.grown hG2 (by omega), u5.grown hG2 (by omega)⟩, ?_⟩
          simp only [Act.put]
          refine Step.t_end (by kernel_rfl) ?_
          clear hA hG hA2 hG2 B5 s5 u5 b5
          go_wp2
          exact ret_two rfl rfl rfl HA1.out HA2.out Tryz.underlying175 rfl i256 rfl ⟨f2, g, rfl, H1.out.fb, H1.out.gb, B6.out⟩
end Go.Proofs.YtmifebcaifbmoaaGreatDoor.Ref2
end

/- G0 -/
section
namespace Go.Proofs.YtmifebcaifbmoaaGreatDoor.G
open Go.RowKit Go.Lib Go.Proofs.YtmifebcaifbmoaaGreatDoor.Blk Go.Proofs.YtmifebcaifbmoaaGreatDoor.Aes Go.Proofs.YtmifebcaifbmoaaGreatDoor.Rj Go.Proofs.YtmifebcaifbmoaaGreatDoor.Field Go.Proofs.YtmifebcaifbmoaaGreatDoor.Poly Go.Proofs.YtmifebcaifbmoaaGreatDoor.Tab Go.Proofs.YtmifebcaifbmoaaGreatDoor.Byts Go.Proofs.YtmifebcaifbmoaaGreatDoor.Tw

section
variable {P : Program} {o : Oper} {a : Act} {w : World} {K : Act → World → Prop} {Q : Exit → Act → World → Prop}
/-- a call of a function's value that holds arguments already -/
theorem w_callv2 (x : Operand) (args : List Operand) (ts : Array TypeId) (ho : o.op = .call { callee := .value x, args := args.toArray, argTypes := ts }) (f : FuncId) (ars caps : List Value) (hx : a.eval x = .func (.func f) ars.toArray caps.toArray)
    {fn : Func} (hf : P.funcs[f]? = some fn) (hn : (fn.name == "runtime.NumGoroutine") = false) (hb : fn.body.isNone = false) (vs : List Value) (hvs : args.map a.eval = vs) {R : Ending → World → Prop}
    (hc : Calls P f (ars ++ vs ++ caps).toArray w R) (h : ∀ e w', R e w' → ∃ v, e = .returned v ∧ K (a.put o.dst v) w') : o.wp P a w K Q := by
  unfold Oper.wp execOp
  rw [ho]
  simp only [resolve, hx, Deferred.ofValue, Sem.run_bind, Sem.run_pure, Result.andThen_ok, invoke, callFunc, run_program, hf, hn, hb, Bool.false_eq_true, if_false]
  rw [List.map_toArray, show (args.map a.eval) = vs from hvs, List.append_toArray, List.append_toArray]
  exact hc.mono fun e w' hr => by
    obtain ⟨v, rfl, hk⟩ := h e w' hr
    exact hk
end
theorem cell_open {w : World} {b o : Nat} {v : Value} (h : w.cell? ⟨b, o, none⟩ = some v) : ∃ cs T fz, w.heap[b]? = some (.cells cs T fz) ∧ cs[o]? = some v := by
  unfold World.cell? at h
  cases hb : w.heap[b]? with
  | none => simp [hb] at h
  | some ob => cases ob with
    | cells cs T fz => simp only [hb, Option.isSome_none, Bool.false_eq_true, if_false] at h; exact ⟨cs, T, fz, rfl, h⟩
    | _ => simp [hb] at h
/-- keys stay -/
def Kq (w w' : World) : Prop := ∀ (b : Nat) (cs : Array Value) (T : TypeId) (fz : Nat × Nat), w.heap[b]? = some (.cells cs T fz) → (T = 149 ∨ T = 191 ∨ ∃ z, cs[0]? = some (.int .u32 z)) → w'.heap[b]? = some (.cells cs T fz)
/-- all stays but bytes -/
def Kp (w w' : World) : Prop := w.heap.size ≤ w'.heap.size ∧ ∀ (b : Nat) (cs : Array Value) (T : TypeId) (fz : Nat × Nat), w.heap[b]? = some (.cells cs T fz) → (T ≠ 5 ∨ (∃ x, cs[0]? = some x ∧ ∀ z, x ≠ .int .u8 z) ∨ b = 2) → w'.heap[b]? = some (.cells cs T fz)
theorem Kq.refl (w : World) : Kq w w := fun _ _ _ _ h _ => h
theorem Kq.trans {a b c : World} (h : Kq a b) (k : Kq b c) : Kq a c := fun x cs T fz e t => k x cs T fz (h x cs T fz e t) t
theorem Kp.refl (w : World) : Kp w w := ⟨Nat.le_refl _, fun _ _ _ _ h _ => h⟩
theorem Kp.trans {a b c : World} (h : Kp a b) (k : Kp b c) : Kp a c := ⟨Nat.le_trans h.1 k.1, fun x cs T fz e t => k.2 x cs T fz (h.2 x cs T fz e t) t⟩
theorem Kp.q {w w' : World} (h : Kp w w') : Kq w w' := fun b cs T fz e t => h.2 b cs T fz e (by
  rcases t with rfl | rfl | ⟨z, hz⟩
  · exact .inl (by decide)
  · exact .inl (by decide)
  · exact .inr (.inl ⟨_, hz, fun _ e => by cases e⟩))
theorem Kp.of_below {w w' : World} (h : Below w.heap.size w w') : Kp w w' := ⟨h.size, fun b _ _ _ e _ => (h.block b (Array.getElem?_eq_some_iff.1 e).1).trans e⟩
theorem Kq.of_below {w w' : World} (h : Below w.heap.size w w') : Kq w w' := (Kp.of_below h).q
theorem Kp.of_gb {w w' : World} {g n : Nat} {F : Nat → Nat} (hS : Sec w g n F) (hn : 0 < n) (hg : g ≠ 2) (h : w.grownBy w' (some g)) : Kp w w' := ⟨h.size, fun b cs T fz e t => (h.block b (Array.getElem?_eq_some_iff.1 e).1 (fun e2 => by
  cases e2
  obtain ⟨cur, h1, h2, h3⟩ := hS.c
  rw [h1] at e
  cases e
  rcases t with t | ⟨x, hx, t⟩ | t
  · exact t rfl
  · rw [h3 0 hn] at hx
    cases hx
    exact t _ rfl
  · exact hg t)).trans e⟩
/-- a block that is no key's changes -/
theorem Kq.of_gb {w w' : World} {g : Nat} {cs : Array Value} {T : TypeId} {fz : Nat × Nat} (hc : w.heap[g]? = some (.cells cs T fz)) (h1 : T ≠ 149) (h2 : T ≠ 191) (h3 : ∀ z, cs[0]? ≠ some (.int .u32 z)) (h : w.grownBy w' (some g)) : Kq w w' := fun b cs T fz e t => (h.block b (Array.getElem?_eq_some_iff.1 e).1 (fun e2 => by
  cases e2
  rw [hc] at e
  cases e
  rcases t with t | t | ⟨z, t⟩
  · exact h1 t
  · exact h2 t
  · exact h3 z t)).trans e
theorem Kp.cells {w w' : World} (h : Kp w w') {b : Nat} {cs : Array Value} {T : TypeId} {fz : Nat × Nat} (hc : w.heap[b]? = some (.cells cs T fz)) (hT : T ≠ 5) : w'.heap[b]? = some (.cells cs T fz) := h.2 b cs T fz hc (.inl hT)
theorem Kp.cell {w w' : World} (h : Kp w w') {b o : Nat} {x v : Value} (h0 : w.cell? ⟨b, 0, none⟩ = some x) (hx : ∀ z, x ≠ .int .u8 z) (hv : w.cell? ⟨b, o, none⟩ = some v) : w'.cell? ⟨b, o, none⟩ = some v := by
  obtain ⟨cs, T, fz, e, e0⟩ := cell_open h0
  rw [cell_of_row w b o _ _ _ e] at hv
  rw [cell_of_row w' b o _ _ _ (h.2 b cs T fz e (.inr (.inl ⟨x, e0, hx⟩)))]
  exact hv
theorem Kp.cell0 {w w' : World} (h : Kp w w') {b : Nat} {x : Value} (h0 : w.cell? ⟨b, 0, none⟩ = some x) (hx : ∀ z, x ≠ .int .u8 z) : w'.cell? ⟨b, 0, none⟩ = some x := h.cell h0 hx h0
theorem RconAt.kp {w w' : World} (h : RconAt w) (k : Kp w w') : RconAt w' := fun i hi => by
  obtain ⟨cs, T, fz, e, e0⟩ := cell_open (h i hi)
  rw [cell_of_row w' _ _ _ _ _ (k.2 _ cs T fz e (.inr (.inr rfl)))]
  exact e0
theorem _root_.Go.Proofs.YtmifebcaifbmoaaGreatDoor.Tw.Sched.kq {key : Nat → Nat} {nk : Nat} {v : Value} {w w' : World} (h : Sched key nk v w) (k : Kq w w') : Sched key nk v w' := by
  obtain ⟨a1, a2, tb, wb, bb, kb, a3, K⟩ := h
  have word : ∀ {b : Nat} {z : Int}, w.cell? ⟨b, 0, none⟩ = some (.int .u32 z) → ∀ {o : Nat} {u : Value}, w.cell? ⟨b, o, none⟩ = some u → w'.cell? ⟨b, o, none⟩ = some u := fun {b z} h0 {o u} hu => by
    obtain ⟨cs, T, fz, e, e0⟩ := cell_open h0
    rw [cell_of_row w b o _ _ _ e] at hu
    rw [cell_of_row w' b o _ _ _ (k b cs T fz e (.inr (.inr ⟨z, e0⟩)))]
    exact hu
  refine ⟨a1, a2, tb, wb, bb, kb, a3, k _ _ _ _ K.c (.inl rfl), ?_, fun r c hr hc => word (K.ws 0 0 (by omega) (by decide)) (K.ws r c hr hc), fun r c hr hc => word (K.bs 0 0 (by omega) (by decide)) (K.bs r c hr hc)⟩
  obtain ⟨C, e, e2⟩ := K.t
  exact ⟨C, k _ _ _ _ e (.inr (.inl rfl)), e2⟩
theorem _root_.Go.Proofs.YtmifebcaifbmoaaGreatDoor.Tab.KindsAt.kp {g d : Nat} {w w' : World} (h : KindsAt g d w) (k : Kp w w') : KindsAt g d w' :=
  ⟨fun j hj i v hv => k.cell (h.c 0 (by decide) 0 _ rfl) (fun _ e => by cases e) (h.c j hj i v hv), k.cells h.d (by decide)⟩

/-- a function that does a block by a key -/
def DoK (f : FuncId) (v : Value) (F : Nat → Nat) (w : World) : Prop := ∀ n, n < 2 ^ 128 → ∀ w', Kq w w' → Calls Tryz.prog f #[v, B16 n] w' fun e w2 => e = .returned (B16 (F n)) ∧ Below w'.heap.size w' w2
theorem DoK.kq {f : FuncId} {v : Value} {F : Nat → Nat} {w w' : World} (h : DoK f v F w) (k : Kq w w') : DoK f v F w' := fun n hn w2 k2 => h n hn w2 (k.trans k2)
theorem DoK.at_ {f : FuncId} {v : Value} {F : Nat → Nat} {w w' : World} (h : DoK f v F w) (k : Kq w w') : DoAt f v F w' := fun n hn w2 hb => h n hn w2 (k.trans (Kq.of_below hb))
theorem doK_code {key : Nat → Nat} {nk : Nat} {v : Value} {w : World} (h : Sched key nk v w) : DoK 106 v (keyE key nk) w := fun n _ w' k => code_any key nk v n w' (h.kq k)
/-- what a sector begins with -/
def StAt (sf : FuncId) (xb : Nat) (iv : Nat → Nat → Nat) (w : World) : Prop := ∀ (s n : Nat) (w' : World), s < 2 ^ 64 → n ≤ 4096 → Kp w w' → Calls Tryz.prog sf #[.pointer (some ⟨xb, 0, none⟩), .int .u64 s, .int .i64 n] w' fun e w2 => e = .returned (B16 (iv s n)) ∧ Below w'.heap.size w' w2
theorem StAt.kp {sf : FuncId} {xb : Nat} {iv : Nat → Nat → Nat} {w w' : World} (h : StAt sf xb iv w) (k : Kp w w') : StAt sf xb iv w' := fun s n w2 h1 h2 k2 => h s n w2 h1 h2 (k.trans k2)
structure FnOk (f : FuncId) : Prop where
  h : ∃ fn, Tryz.prog.funcs[f]? = some fn ∧ (fn.name == "runtime.NumGoroutine") = false ∧ fn.body.isNone = false
/-- a function that changes a sector's bytes -/
def RunAt (f : FuncId) (ars caps : List Value) (ok : Nat → Prop) (Fn : Nat → Nat → (Nat → Nat) → Nat → Nat) (w : World) : Prop := ∀ (s n g cap : Nat) (F0 : Nat → Nat) (w' : World), s < 2 ^ 64 → 16 ≤ n → n ≤ 4096 → ok n → n ≤ cap → cap ≤ 9223372036854775807 → (∀ i, F0 i < 256) → Kp w w' → Sec w' g n F0 → g ≠ 2 →
  Calls Tryz.prog f (ars ++ ([.int .u64 s, .slice (some ⟨g, 0, none⟩) n cap] : List Value) ++ caps).toArray w' fun e w2 => e = .returned (.tuple #[]) ∧ Sec w2 g n (Fn s n F0) ∧ w'.grownBy w2 (some g)
theorem RunAt.kp {f : FuncId} {ars caps : List Value} {ok : Nat → Prop} {Fn : Nat → Nat → (Nat → Nat) → Nat → Nat} {w w' : World} (h : RunAt f ars caps ok Fn w) (k : Kp w w') : RunAt f ars caps ok Fn w' := fun s n g cap F0 w2 h1 h2 h3 h4 h5 h6 h7 k2 => h s n g cap F0 w2 h1 h2 h3 h4 h5 h6 h7 (k.trans k2)
/-- a number of bytes that a mode takes -/
def okN (loose : Bool) (n : Nat) : Prop := loose = true ∨ n % 16 = 0
/-- a cipher of mode k: what it seals and opens bytes as -/
structure CiphG (k cb : Nat) (loose : Bool) (iv : Nat → Nat → Nat) (S O : Nat → Nat → (Nat → Nat) → Nat → Nat) (w : World) : Prop where
  hk : k < 17
  hl : ∀ d, (kindL d k)[6]? = some (.bool loose)
  h : ∃ xb gk d f1 a1 c1 f2 a2 c2, w.heap[cb]? = some (.cells #[.pointer (some ⟨xb, 0, none⟩), .pointer (some ⟨gk, k * 7, none⟩), .func (.func f1) (List.toArray a1) (List.toArray c1), .func (.func f2) (List.toArray a2) (List.toArray c2)] 80 (0, 0)) ∧
    (∃ cs, w.heap[xb]? = some (.cells cs 96 (0, 0)) ∧ cs[36]? = some (.bool false)) ∧ KindsAt gk d w ∧ FnOk f1 ∧ FnOk f2 ∧ RunAt f1 a1 c1 (okN loose) S w ∧ RunAt f2 a2 c2 (okN loose) O w ∧ ∀ sf, (kindL 0 k)[3]? = some (fv sf) → StAt sf xb iv w
theorem CiphG.kp {k cb : Nat} {loose : Bool} {iv : Nat → Nat → Nat} {S O : Nat → Nat → (Nat → Nat) → Nat → Nat} {w w' : World} (h : CiphG k cb loose iv S O w) (q : Kp w w') : CiphG k cb loose iv S O w' := by
  obtain ⟨a, b, xb, gk, d, f1, a1, c1, f2, a2, c2, h1, ⟨cs, h2, h3⟩, h4, h5, h6, h7, h8, h9⟩ := h
  exact ⟨a, b, xb, gk, d, f1, a1, c1, f2, a2, c2, q.cells h1 (by decide), ⟨cs, q.cells h2 (by decide), h3⟩, h4.kp q, h5, h6, h7.kp q, h8.kp q, fun sf e => (h9 sf e).kp q⟩
end Go.Proofs.YtmifebcaifbmoaaGreatDoor.G
end

/- G1 -/
section
namespace Go.Proofs.YtmifebcaifbmoaaGreatDoor.G
open Go.RowKit Go.Lib Go.Proofs.YtmifebcaifbmoaaGreatDoor.Blk Go.Proofs.YtmifebcaifbmoaaGreatDoor.Poly Go.Proofs.YtmifebcaifbmoaaGreatDoor.Field Go.Proofs.YtmifebcaifbmoaaGreatDoor.Tab Go.Proofs.YtmifebcaifbmoaaGreatDoor.Byts Go.Proofs.YtmifebcaifbmoaaGreatDoor.Tw

set_option maxRecDepth 100000 in
set_option maxHeartbeats 4000000 in
theorem open_any {k cb : Nat} {loose : Bool} {iv : Nat → Nat → Nat} {S O : Nat → Nat → (Nat → Nat) → Nat → Nat} (w : World) (hC : CiphG k cb loose iv S O w) (hrc : 2 < w.heap.size) (s : Nat) (hs : s < 2 ^ 64) (b off n cap : Nat) (hok : okN loose n) (hn0 : 16 ≤ n) (hn : n ≤ 4096) (f : Nat → Nat) (hf : ∀ i, f i < 256) (hB : BL w (some ⟨b, off, none⟩) n f) :
    Calls Tryz.prog 16 #[.pointer (some ⟨cb, 0, none⟩), .int .u64 s, .slice (some ⟨b, off, none⟩) n cap] w fun e w' => ∃ g, e = .returned (.tuple #[.slice (some ⟨g, 0, none⟩) n n, .int .i64 0]) ∧ Sec w' g n (O s n f) ∧ w.heap.size ≤ g ∧ Below w.heap.size w w' := by
  obtain ⟨hk, hl, xb, gk, d, f1, a1, c1, f2, a2, c2, h1, ⟨cs, h2, h3⟩, h4, ⟨fn1, o1, o2, o3⟩, ⟨fn2, p1, p2, p3⟩, hr1, hr2, _⟩ := hC
  have e0 : w.cell? ⟨cb, 0, none⟩ = some (.pointer (some ⟨xb, 0, none⟩)) := by rw [cell_of_row w _ _ _ _ _ h1]; rfl
  have e1 : w.cell? ⟨cb, 1, none⟩ = some (.pointer (some ⟨gk, k * 7, none⟩)) := by rw [cell_of_row w _ _ _ _ _ h1]; rfl
  have e2 : w.cell? ⟨cb, 3, none⟩ = some (.func (.func f2) (List.toArray a2) (List.toArray c2)) := by rw [cell_of_row w _ _ _ _ _ h1]; rfl
  have MY := Lib.hid (may_any cb xb gk (k * 7) n loose w e0 (by rw [cell_of_row w _ _ _ _ _ h2]; exact h3) e1 (h4.c k hk 6 _ (hl d)) hn0 hn hok)
  have CL := Lib.hid (clone_any b off n cap f w (by omega) (by omega) hB)
  have C2 := Lib.hid e2
  have RN := Lib.hid (fun g c w2 (hb : Below w.heap.size w w2) (hS : Sec w2 g n f) (h1 : n ≤ c) (h2 : c ≤ 9223372036854775807) (hg : w.heap.size ≤ g) => hr2 s n g c f w2 hs hn0 hn hok h1 h2 hf (Kp.of_below hb) hS (by omega))
  clear e0 e1 e2 h1 h2 h3 h4 hr1 hr2 hB hl hok
  go_enter Tryz.func16, Tryz.ntmps16
  go_upto_region 4 with (go_at_call 40; refine MY.out.mono ?_; rintro e w' ⟨rfl, rfl⟩)
  go_upto_region 5 with (go_at_call 41; refine CL.out.mono ?_; rintro e w2 ⟨g, c, rfl, hsec, hg, hgc, hcm, hb⟩)
  have B2 := Lib.hid hb
  have RN2 := Lib.hid (RN.out g c w2 hb hsec hgc hcm hg)
  have hcc := cell_bel B2.out C2.out
  clear hsec hb MY CL RN
  refine wp_region_lit ?_
  refine Step.p_move rfl _ rfl (.pointer (some ⟨cb, 0, none⟩)) rfl ?_
  simp only [Act.put, List.setIfInBounds_toArray, List.set_cons_zero, List.set_cons_succ]
  refine Step.p_val rfl (.pointer (some ⟨cb, 0, none⟩)) (by unfold execOp; go_simp) ?_
  simp only [Act.put, List.setIfInBounds_toArray, List.set_cons_zero, List.set_cons_succ]
  refine Tree.p_field rfl _ _ _ rfl (cb) (0) rfl Tryz.underlying80 rfl (sz := 1) (by kernel_rfl) (by decide) (3) rfl ?_
  simp only [Act.put, List.setIfInBounds_toArray, List.set_cons_zero, List.set_cons_succ]
  refine Tree.p_load1 rfl _ _ rfl (cb) (3) rfl (.func (.func f2) (List.toArray a2) (List.toArray c2)) (hcc) Tryz.underlying78 rfl ?_
  simp only [Act.put, List.setIfInBounds_toArray, List.set_cons_zero, List.set_cons_succ]
  refine Step.p_move rfl _ rfl (.int .u64 s) rfl ?_
  simp only [Act.put, List.setIfInBounds_toArray, List.set_cons_zero, List.set_cons_succ]
  refine Step.p_move rfl _ rfl (.slice (some ⟨g, 0, none⟩) n c) rfl ?_
  simp only [Act.put, List.setIfInBounds_toArray, List.set_cons_zero, List.set_cons_succ]
  refine Step.p_wp rfl (w_callv2 _ _ _ rfl f2 a2 c2 rfl p1 p2 p3 [.int .u64 s, .slice (some ⟨g, 0, none⟩) n c] rfl RN2.out ?_)
  rintro e w3 ⟨rfl, hsec, hg3⟩
  refine ⟨_, rfl, ?_⟩
  simp only [Act.put, List.setIfInBounds_toArray, List.set_cons_zero, List.set_cons_succ]
  refine wpList_nil ?_
  have S3 := Lib.hid hsec
  have B3 := Lib.hid (B2.out.grown hg3 B2.out.size (fun j hj => by cases hj; exact hg))
  clear hsec hg3 hcc RN2
  go_upto_region 6 with fail
  refine wp_region_lit ?_
  refine Step.p_move rfl _ rfl (.slice (some ⟨g, 0, none⟩) n c) rfl ?_
  simp only [Act.put, List.setIfInBounds_toArray, List.set_cons_zero, List.set_cons_succ]
  refine Step.p_move rfl _ rfl (.slice (some ⟨g, 0, none⟩) n c) rfl ?_
  simp only [Act.put, List.setIfInBounds_toArray, List.set_cons_zero, List.set_cons_succ]
  refine Step.p_len rfl _ _ 5 rfl (_) (n) (c) rfl Tryz.underlying22 ?_
  simp only [Act.put, List.setIfInBounds_toArray, List.set_cons_zero, List.set_cons_succ]
  refine Step.p_move rfl _ rfl (.slice (some ⟨g, 0, none⟩) n c) rfl ?_
  simp only [Act.put, List.setIfInBounds_toArray, List.set_cons_zero, List.set_cons_succ]
  refine Step.p_len rfl _ _ 5 rfl (_) (n) (c) rfl Tryz.underlying22 ?_
  simp only [Act.put, List.setIfInBounds_toArray, List.set_cons_zero, List.set_cons_succ]
  refine Step.p_val rfl (.slice (some ⟨g, 0, none⟩) n n) (by unfold execOp; go_simp; try (rw [if_pos ⟨by omega, by omega⟩])) ?_
  simp only [Act.put, List.setIfInBounds_toArray, List.set_cons_zero, List.set_cons_succ]
  refine Step.p_assign rfl _ rfl (.slice (some ⟨g, 0, none⟩) n n) rfl ?_
  simp only [Act.put, List.setIfInBounds_toArray, List.set_cons_zero, List.set_cons_succ]
  refine Step.p_assign rfl _ rfl (.int .i64 0) rfl ?_
  simp only [Act.put, List.setIfInBounds_toArray, List.set_cons_zero, List.set_cons_succ]
  refine wpList_nil ?_
  go_wp2
  go_ret2
  exact ⟨g, rfl, S3.out, hg, B3.out⟩
end Go.Proofs.YtmifebcaifbmoaaGreatDoor.G
end
