/- Times of the document's own functions. -/
import Derived.Test.YtfchbodbkdkcfaaRef6
namespace Go.Proofs.Ytfchbodbkdkcfaa.Ref
open Go.RowKit Go.Lib
open Go.Proofs.Ytfchbodbkdkcfaa.Blk Go.Proofs.Ytfchbodbkdkcfaa.Poly Go.Proofs.Ytfchbodbkdkcfaa.Field Go.Proofs.Ytfchbodbkdkcfaa.Ints Go.Proofs.Ytfchbodbkdkcfaa.Alg

theorem lbel {w w' : World} {t : TypeId} {g off n cap m B : Nat} {F f : Nat → Int} (h : LI w t g off n cap m F f) (hb : Below B w w') (hg : g < B) : LI w' t g off n cap m F f := h.below hb hg
theorem product_op (A B : Nat) (ga ca ma : Nat) (Fa : Nat → Int) (gb cb mb : Nat) (Fb : Nat → Int) (w : World) (hA : LI w 3 ga 0 128 ca ma Fa (bitI A)) (hB : LI w 3 gb 0 128 cb mb Fb (bitI B)) :
    Calls Try.prog 36 #[.slice (some ⟨ga, 0, none⟩) 128 ca, .slice (some ⟨gb, 0, none⟩) 128 cb] w fun e w' =>
    ∃ gC, e = .returned (.slice (some ⟨gC, 0, none⟩) 255 255) ∧ gC = w.heap.size ∧ LI w' 3 gC 0 255 255 255 (bitI (clm A B)) (bitI (clm A B)) ∧ Below w.heap.size w w' :=
  (product_any A B ga 0 ca ma Fa gb 0 cb mb Fb w hA hB).mono fun _ _ ⟨he, hl, hb⟩ => ⟨_, he, rfl, ⟨hl, by decide, by decide, by decide, fun i _ => by rw [Nat.zero_add]⟩, hb⟩
theorem make7 (w : World) : (Instr.buildSlice 68 4 #[(0, .int .i64 7), (1, .int .i64 2), (2, .int .i64 1), (3, .int .i64 0)]).run Try.prog w = .ok (.slice (some ⟨w.heap.size, 0, none⟩) 4 4) (w.alloc (.cells #[.int .i64 7, .int .i64 2, .int .i64 1, .int .i64 0] 3)) := by kernel_rfl
theorem w_four7 {o : Oper} {a : Act} {w : World} {K : Act → World → Prop} {Q : Exit → Act → World → Prop} (ho : o.op = .buildSlice 68 4 #[(0, .const (.int .i64 7)), (1, .const (.int .i64 2)), (2, .const (.int .i64 1)), (3, .const (.int .i64 0))])
    (h : ∀ gp w', gp = w.heap.size → LI w' 3 gp 0 4 4 4 (fun k => (p7 k : Int)) (fun k => (p7 k : Int)) → Below w.heap.size w w' → K (a.put o.dst (.slice (some ⟨gp, 0, none⟩) 4 4)) w') : o.wp Try.prog a w K Q :=
  Held.w_run (.slice (some ⟨w.heap.size, 0, none⟩) 4 4) _ (by
    unfold execOp
    rw [ho]
    simp only [List.map_toArray, List.map_cons, List.map_nil, Act.eval, Sem.run_bind, make7 w, Result.andThen_ok, Sem.run_pure]) (h _ _ rfl (LI.four7 w) ((Below.refl _ _).alloc (Nat.le_refl _) _))

structure R3 (a b : Nat) (B : Nat) (w wr : World) : Prop where
  a : Arr wr B .u8 16 48 (fun i => (byt a i : Int))
  b : Arr wr (B + 1) .u8 16 48 (fun i => (byt b i : Int))
  r : Arr wr (B + 1 + 1) .u8 16 48 (fun _ => 0)
  bel : Below B w wr
  size : B + 3 ≤ wr.heap.size
theorem r3_start (a b : Nat) (w : World) : R3 a b w.heap.size w (((w.alloc (.cells (arr .u8 16 fun i => (byt a i : Int)) 48)).alloc (.cells (arr .u8 16 fun i => (byt b i : Int)) 48)).alloc (.cells (arr .u8 16 fun _ => 0) 48)) := by
  have h := three_of (fun i => (byt a i : Int)) (fun i => (byt b i : Int)) w
  exact ⟨h.a, h.b, h.c, h.bel, by simp⟩
theorem R3.belowN {a b B N : Nat} {w wr w' : World} (h : R3 a b B w wr) (hb : Below N wr w') (hN : B + 3 ≤ N) : R3 a b B w w' :=
  ⟨h.a.below hb (by omega), h.b.below hb (by omega), h.r.below hb (by omega), h.bel.trans (hb.mono (by omega)), Nat.le_trans h.size hb.size⟩

set_option maxRecDepth 100000 in
set_option maxHeartbeats 4000000 in
theorem rtimes_any (a b : Nat) (w : World) : Calls Try.prog 23 #[B16 a, B16 b] w fun e w' => e = .returned (B16 (Frob.tm a b)) ∧ Below w.heap.size w w' := by
  have H0 := Lib.hid (r3_start a b w)
  rw [zero16] at H0
  go_enter Try.func23, Try.ntmps23
  go_upto_region 1 with fail
  generalize (((w.alloc (.cells (arr .u8 16 fun i => (byt a i : Int)) 48)).alloc (.cells (arr .u8 16 fun i => (byt b i : Int)) 48)).alloc (.cells #[.int .u8 0, .int .u8 0, .int .u8 0, .int .u8 0, .int .u8 0, .int .u8 0, .int .u8 0, .int .u8 0, .int .u8 0, .int .u8 0, .int .u8 0, .int .u8 0, .int .u8 0, .int .u8 0, .int .u8 0, .int .u8 0] 48)) = w1 at *
  go_cut [5] from 6 to 17 (fun s5 wx => ∃ g cap m G, s5 = .slice (some ⟨g, 0, none⟩) 128 cap ∧ LI wx 3 g 0 128 cap m G (bitI (rd p7 127 (clm (revN a) (revN b)))) ∧ R3 a b w.heap.size w wx)
  case first =>
    refine Held.begin_ (S := fun w' => R3 a b w.heap.size w w') 10 rfl (by kernel_rfl) (H0.out.belowN (Below.refl w1.heap.size w1).drew H0.out.size) ?_
    intro hS
    have SX := Lib.hid hS
    clear hS
    generalize w1.drew = v0 at SX ⊢
    refine Held.t_load (i := 0) rfl rfl (by kernel_rfl) (by kernel_rfl) (by kernel_rfl) SX.out _ _ rfl _ rfl (fun w' hw' => hw'.a) Try.underlying48 rfl info16 ?_
    simp only [Act.put, List.setIfInBounds_toArray, List.set_cons_zero, List.set_cons_succ]
    refine Held.t_load (i := 3) rfl rfl (by kernel_rfl) (by kernel_rfl) (by kernel_rfl) SX.out _ _ rfl _ rfl (fun w' hw' => hw'.b) Try.underlying48 rfl info16 ?_
    simp only [Act.put, List.setIfInBounds_toArray, List.set_cons_zero, List.set_cons_succ]
    refine Held.t_two (i := 1) (j := 7) rfl rfl rfl rfl (by kernel_rfl) ?_ ?_
    · refine Held.w_call 37 _ _ rfl Try.func37 (by kernel_rfl) rfl [B16 a] rfl (rturned_num a v0) ?_
      intro v1 hb
      have SX' := Lib.hid (SX.out.belowN hb SX.out.size)
      clear SX 
      have SX := SX'
      clear hb SX' 
      refine ⟨SX.out, ?_⟩
      simp only [Act.put, List.setIfInBounds_toArray, List.set_cons_zero, List.set_cons_succ]
      refine Held.t_two (i := 2) (j := 7) rfl rfl rfl rfl (by kernel_rfl) ?_ ?_
      · refine Held.w_callx 33 _ _ rfl Try.func33 (by kernel_rfl) rfl [B16 (revN a)] rfl (little_any (revN a) v1) ?_
        rintro e v2 ⟨ga, ca, ma, Fa, rfl, hga, hl, hb⟩
        refine ⟨_, rfl, ?_⟩
        have SX' := Lib.hid (SX.out.belowN hb SX.out.size)
        clear SX 
        have SX := SX'
        clear hb SX' 
        have LA := Lib.hid hl
        clear hl hga
        refine ⟨SX.out, ?_⟩
        simp only [Act.put, List.setIfInBounds_toArray, List.set_cons_zero, List.set_cons_succ]
        refine Held.t_two (i := 4) (j := 7) rfl rfl rfl rfl (by kernel_rfl) ?_ ?_
        · refine Held.w_call 37 _ _ rfl Try.func37 (by kernel_rfl) rfl [B16 b] rfl (rturned_num b v2) ?_
          intro v3 hb
          have SX' := Lib.hid (SX.out.belowN hb SX.out.size)
          have LA' := Lib.hid (lbel LA.out hb LA.out.arr.lt)
          clear SX LA
          have SX := SX'
          have LA := LA'
          clear hb SX' LA'
          refine ⟨SX.out, ?_⟩
          simp only [Act.put, List.setIfInBounds_toArray, List.set_cons_zero, List.set_cons_succ]
          refine Held.t_two (i := 5) (j := 7) rfl rfl rfl rfl (by kernel_rfl) ?_ ?_
          · refine Held.w_callx 33 _ _ rfl Try.func33 (by kernel_rfl) rfl [B16 (revN b)] rfl (little_any (revN b) v3) ?_
            rintro e v4 ⟨gb, cb, mb, Fb, rfl, hgb, hl, hb⟩
            refine ⟨_, rfl, ?_⟩
            have SX' := Lib.hid (SX.out.belowN hb SX.out.size)
            have LA' := Lib.hid (lbel LA.out hb LA.out.arr.lt)
            clear SX LA
            have SX := SX'
            have LA := LA'
            clear hb SX' LA'
            have LB := Lib.hid hl
            clear hl hgb
            refine ⟨SX.out, ?_⟩
            simp only [Act.put, List.setIfInBounds_toArray, List.set_cons_zero, List.set_cons_succ]
            refine Held.t_two (i := 6) (j := 7) rfl rfl rfl rfl (by kernel_rfl) ?_ ?_
            · refine Held.w_callx 36 _ _ rfl Try.func36 (by kernel_rfl) rfl [.slice (some ⟨ga, 0, none⟩) 128 ca, .slice (some ⟨gb, 0, none⟩) 128 cb] rfl (product_op (revN a) (revN b) ga ca ma Fa gb cb mb Fb v4 LA.out LB.out) ?_
              rintro e v5 ⟨gC, rfl, hgC, hl, hb⟩
              refine ⟨_, rfl, ?_⟩
              have GC : Hid (w.heap.size + 3 ≤ gC) := Lib.hid (by rw [hgC]; exact SX.out.size)
              have SX' := Lib.hid (SX.out.belowN hb SX.out.size)
              have LA' := Lib.hid (lbel LA.out hb LA.out.arr.lt)
              have LB' := Lib.hid (lbel LB.out hb LB.out.arr.lt)
              clear SX LA LB
              have SX := SX'
              have LA := LA'
              have LB := LB'
              clear hb SX' LA' LB'
              have LC := Lib.hid hl
              clear hl hgC
              refine ⟨SX.out, ?_⟩
              simp only [Act.put, List.setIfInBounds_toArray, List.set_cons_zero, List.set_cons_succ]
              refine Held.t_one (i := 7) rfl rfl (by kernel_rfl) ?_
              refine w_four7 rfl ?_
              intro gp v6 hgp hl hb
              have NE : Hid (gp ≠ gC) := Lib.hid (by have := LC.out.arr.lt; omega)
              have SX' := Lib.hid (SX.out.belowN hb SX.out.size)
              have LA' := Lib.hid (lbel LA.out hb LA.out.arr.lt)
              have LB' := Lib.hid (lbel LB.out hb LB.out.arr.lt)
              have LC' := Lib.hid (lbel LC.out hb LC.out.arr.lt)
              clear SX LA LB LC
              have SX := SX'
              have LA := LA'
              have LB := LB'
              have LC := LC'
              clear hb SX' LA' LB' LC'
              have LP := Lib.hid hl
              clear hl hgp
              refine ⟨SX.out, ?_⟩
              simp only [Act.put, List.setIfInBounds_toArray, List.set_cons_zero, List.set_cons_succ]
              refine Held.t_one (i := 8) rfl rfl (by kernel_rfl) ?_
              refine Held.w_callx 35 _ _ rfl Try.func35 (by kernel_rfl) rfl [.slice (some ⟨gC, 0, none⟩) 255 255, .slice (some ⟨gp, 0, none⟩) 4 4] rfl (reduced_any (clm (revN a) (revN b)) p7 (by decide) gC 255 255 255 _ 127 rfl (by decide) gp 0 4 4 _ v6 LC.out LP.out NE.out) ?_
              rintro e v7 ⟨rfl, ⟨G, hl⟩, hG, hs⟩
              refine ⟨_, rfl, SX.out.belowN (Held.gb_below (B := w.heap.size + 3) hG SX.out.size (by intro q hq; cases hq; exact GC.out)) (Nat.le_refl _), ?_⟩
              simp only [Act.put, List.setIfInBounds_toArray, List.set_cons_zero, List.set_cons_succ]
              refine Held.t_assign (i := 9) rfl rfl (by kernel_rfl) (by kernel_rfl) (by kernel_rfl) (SX.out.belowN (Held.gb_below (B := w.heap.size + 3) hG SX.out.size (by intro q hq; cases hq; exact GC.out)) (Nat.le_refl _)) _ rfl (.slice (some ⟨gC, 0, none⟩) 128 255) rfl ?_
              simp only [Act.put, List.setIfInBounds_toArray, List.set_cons_zero, List.set_cons_succ]
              refine Held.t_end (by kernel_rfl) ?_
              go_wp2_with fail
              go_meet
              case rel => exact ⟨gC, 255, 255, G, rfl, LI.first (k := 128) hl (by decide), SX.out.belowN (Held.gb_below (B := w.heap.size + 3) hG SX.out.size (by intro q hq; cases hq; exact GC.out)) (Nat.le_refl _)⟩
            · refine w_four7 rfl ?_
              intro gp v8 hgp hl hb
              have SX' := Lib.hid (SX.out.belowN hb SX.out.size)
              have LA' := Lib.hid (lbel LA.out hb LA.out.arr.lt)
              have LB' := Lib.hid (lbel LB.out hb LB.out.arr.lt)
              clear SX LA LB
              have SX := SX'
              have LA := LA'
              have LB := LB'
              clear hb SX' LA' LB'
              have LP := Lib.hid hl
              clear hl hgp
              refine ⟨SX.out, ?_⟩
              simp only [Act.put, List.setIfInBounds_toArray, List.set_cons_zero, List.set_cons_succ]
              refine Held.t_one (i := 6) rfl rfl (by kernel_rfl) ?_
              refine Held.w_callx 36 _ _ rfl Try.func36 (by kernel_rfl) rfl [.slice (some ⟨ga, 0, none⟩) 128 ca, .slice (some ⟨gb, 0, none⟩) 128 cb] rfl (product_op (revN a) (revN b) ga ca ma Fa gb cb mb Fb v8 LA.out LB.out) ?_
              rintro e v9 ⟨gC, rfl, hgC, hl, hb⟩
              refine ⟨_, rfl, ?_⟩
              have GC : Hid (w.heap.size + 3 ≤ gC) := Lib.hid (by rw [hgC]; exact SX.out.size)
              have NE : Hid (gp ≠ gC) := Lib.hid (by have := LP.out.arr.lt; omega)
              have SX' := Lib.hid (SX.out.belowN hb SX.out.size)
              have LA' := Lib.hid (lbel LA.out hb LA.out.arr.lt)
              have LB' := Lib.hid (lbel LB.out hb LB.out.arr.lt)
              have LP' := Lib.hid (lbel LP.out hb LP.out.arr.lt)
              clear SX LA LB LP
              have SX := SX'
              have LA := LA'
              have LB := LB'
              have LP := LP'
              clear hb SX' LA' LB' LP'
              have LC := Lib.hid hl
              clear hl hgC
              refine ⟨SX.out, ?_⟩
              simp only [Act.put, List.setIfInBounds_toArray, List.set_cons_zero, List.set_cons_succ]
              refine Held.t_one (i := 8) rfl rfl (by kernel_rfl) ?_
              refine Held.w_callx 35 _ _ rfl Try.func35 (by kernel_rfl) rfl [.slice (some ⟨gC, 0, none⟩) 255 255, .slice (some ⟨gp, 0, none⟩) 4 4] rfl (reduced_any (clm (revN a) (revN b)) p7 (by decide) gC 255 255 255 _ 127 rfl (by decide) gp 0 4 4 _ v9 LC.out LP.out NE.out) ?_
              rintro e v10 ⟨rfl, ⟨G, hl⟩, hG, hs⟩
              refine ⟨_, rfl, SX.out.belowN (Held.gb_below (B := w.heap.size + 3) hG SX.out.size (by intro q hq; cases hq; exact GC.out)) (Nat.le_refl _), ?_⟩
              simp only [Act.put, List.setIfInBounds_toArray, List.set_cons_zero, List.set_cons_succ]
              refine Held.t_assign (i := 9) rfl rfl (by kernel_rfl) (by kernel_rfl) (by kernel_rfl) (SX.out.belowN (Held.gb_below (B := w.heap.size + 3) hG SX.out.size (by intro q hq; cases hq; exact GC.out)) (Nat.le_refl _)) _ rfl (.slice (some ⟨gC, 0, none⟩) 128 255) rfl ?_
              simp only [Act.put, List.setIfInBounds_toArray, List.set_cons_zero, List.set_cons_succ]
              refine Held.t_end (by kernel_rfl) ?_
              go_wp2_with fail
              go_meet
              case rel => exact ⟨gC, 255, 255, G, rfl, LI.first (k := 128) hl (by decide), SX.out.belowN (Held.gb_below (B := w.heap.size + 3) hG SX.out.size (by intro q hq; cases hq; exact GC.out)) (Nat.le_refl _)⟩
          · refine w_four7 rfl ?_
            intro gp v11 hgp hl hb
            have SX' := Lib.hid (SX.out.belowN hb SX.out.size)
            have LA' := Lib.hid (lbel LA.out hb LA.out.arr.lt)
            clear SX LA
            have SX := SX'
            have LA := LA'
            clear hb SX' LA'
            have LP := Lib.hid hl
            clear hl hgp
            refine ⟨SX.out, ?_⟩
            simp only [Act.put, List.setIfInBounds_toArray, List.set_cons_zero, List.set_cons_succ]
            refine Held.t_one (i := 5) rfl rfl (by kernel_rfl) ?_
            refine Held.w_callx 33 _ _ rfl Try.func33 (by kernel_rfl) rfl [B16 (revN b)] rfl (little_any (revN b) v11) ?_
            rintro e v12 ⟨gb, cb, mb, Fb, rfl, hgb, hl, hb⟩
            refine ⟨_, rfl, ?_⟩
            have SX' := Lib.hid (SX.out.belowN hb SX.out.size)
            have LA' := Lib.hid (lbel LA.out hb LA.out.arr.lt)
            have LP' := Lib.hid (lbel LP.out hb LP.out.arr.lt)
            clear SX LA LP
            have SX := SX'
            have LA := LA'
            have LP := LP'
            clear hb SX' LA' LP'
            have LB := Lib.hid hl
            clear hl hgb
            refine ⟨SX.out, ?_⟩
            simp only [Act.put, List.setIfInBounds_toArray, List.set_cons_zero, List.set_cons_succ]
            refine Held.t_one (i := 6) rfl rfl (by kernel_rfl) ?_
            refine Held.w_callx 36 _ _ rfl Try.func36 (by kernel_rfl) rfl [.slice (some ⟨ga, 0, none⟩) 128 ca, .slice (some ⟨gb, 0, none⟩) 128 cb] rfl (product_op (revN a) (revN b) ga ca ma Fa gb cb mb Fb v12 LA.out LB.out) ?_
            rintro e v13 ⟨gC, rfl, hgC, hl, hb⟩
            refine ⟨_, rfl, ?_⟩
            have GC : Hid (w.heap.size + 3 ≤ gC) := Lib.hid (by rw [hgC]; exact SX.out.size)
            have NE : Hid (gp ≠ gC) := Lib.hid (by have := LP.out.arr.lt; omega)
            have SX' := Lib.hid (SX.out.belowN hb SX.out.size)
            have LA' := Lib.hid (lbel LA.out hb LA.out.arr.lt)
            have LP' := Lib.hid (lbel LP.out hb LP.out.arr.lt)
            have LB' := Lib.hid (lbel LB.out hb LB.out.arr.lt)
            clear SX LA LP LB
            have SX := SX'
            have LA := LA'
            have LP := LP'
            have LB := LB'
            clear hb SX' LA' LP' LB'
            have LC := Lib.hid hl
            clear hl hgC
            refine ⟨SX.out, ?_⟩
            simp only [Act.put, List.setIfInBounds_toArray, List.set_cons_zero, List.set_cons_succ]
            refine Held.t_one (i := 8) rfl rfl (by kernel_rfl) ?_
            refine Held.w_callx 35 _ _ rfl Try.func35 (by kernel_rfl) rfl [.slice (some ⟨gC, 0, none⟩) 255 255, .slice (some ⟨gp, 0, none⟩) 4 4] rfl (reduced_any (clm (revN a) (revN b)) p7 (by decide) gC 255 255 255 _ 127 rfl (by decide) gp 0 4 4 _ v13 LC.out LP.out NE.out) ?_
            rintro e v14 ⟨rfl, ⟨G, hl⟩, hG, hs⟩
            refine ⟨_, rfl, SX.out.belowN (Held.gb_below (B := w.heap.size + 3) hG SX.out.size (by intro q hq; cases hq; exact GC.out)) (Nat.le_refl _), ?_⟩
            simp only [Act.put, List.setIfInBounds_toArray, List.set_cons_zero, List.set_cons_succ]
            refine Held.t_assign (i := 9) rfl rfl (by kernel_rfl) (by kernel_rfl) (by kernel_rfl) (SX.out.belowN (Held.gb_below (B := w.heap.size + 3) hG SX.out.size (by intro q hq; cases hq; exact GC.out)) (Nat.le_refl _)) _ rfl (.slice (some ⟨gC, 0, none⟩) 128 255) rfl ?_
            simp only [Act.put, List.setIfInBounds_toArray, List.set_cons_zero, List.set_cons_succ]
            refine Held.t_end (by kernel_rfl) ?_
            go_wp2_with fail
            go_meet
            case rel => exact ⟨gC, 255, 255, G, rfl, LI.first (k := 128) hl (by decide), SX.out.belowN (Held.gb_below (B := w.heap.size + 3) hG SX.out.size (by intro q hq; cases hq; exact GC.out)) (Nat.le_refl _)⟩
        · refine w_four7 rfl ?_
          intro gp v15 hgp hl hb
          have SX' := Lib.hid (SX.out.belowN hb SX.out.size)
          have LA' := Lib.hid (lbel LA.out hb LA.out.arr.lt)
          clear SX LA
          have SX := SX'
          have LA := LA'
          clear hb SX' LA'
          have LP := Lib.hid hl
          clear hl hgp
          refine ⟨SX.out, ?_⟩
          simp only [Act.put, List.setIfInBounds_toArray, List.set_cons_zero, List.set_cons_succ]
          refine Held.t_one (i := 4) rfl rfl (by kernel_rfl) ?_
          refine Held.w_call 37 _ _ rfl Try.func37 (by kernel_rfl) rfl [B16 b] rfl (rturned_num b v15) ?_
          intro v16 hb
          have SX' := Lib.hid (SX.out.belowN hb SX.out.size)
          have LA' := Lib.hid (lbel LA.out hb LA.out.arr.lt)
          have LP' := Lib.hid (lbel LP.out hb LP.out.arr.lt)
          clear SX LA LP
          have SX := SX'
          have LA := LA'
          have LP := LP'
          clear hb SX' LA' LP'
          refine ⟨SX.out, ?_⟩
          simp only [Act.put, List.setIfInBounds_toArray, List.set_cons_zero, List.set_cons_succ]
          refine Held.t_one (i := 5) rfl rfl (by kernel_rfl) ?_
          refine Held.w_callx 33 _ _ rfl Try.func33 (by kernel_rfl) rfl [B16 (revN b)] rfl (little_any (revN b) v16) ?_
          rintro e v17 ⟨gb, cb, mb, Fb, rfl, hgb, hl, hb⟩
          refine ⟨_, rfl, ?_⟩
          have SX' := Lib.hid (SX.out.belowN hb SX.out.size)
          have LA' := Lib.hid (lbel LA.out hb LA.out.arr.lt)
          have LP' := Lib.hid (lbel LP.out hb LP.out.arr.lt)
          clear SX LA LP
          have SX := SX'
          have LA := LA'
          have LP := LP'
          clear hb SX' LA' LP'
          have LB := Lib.hid hl
          clear hl hgb
          refine ⟨SX.out, ?_⟩
          simp only [Act.put, List.setIfInBounds_toArray, List.set_cons_zero, List.set_cons_succ]
          refine Held.t_one (i := 6) rfl rfl (by kernel_rfl) ?_
          refine Held.w_callx 36 _ _ rfl Try.func36 (by kernel_rfl) rfl [.slice (some ⟨ga, 0, none⟩) 128 ca, .slice (some ⟨gb, 0, none⟩) 128 cb] rfl (product_op (revN a) (revN b) ga ca ma Fa gb cb mb Fb v17 LA.out LB.out) ?_
          rintro e v18 ⟨gC, rfl, hgC, hl, hb⟩
          refine ⟨_, rfl, ?_⟩
          have GC : Hid (w.heap.size + 3 ≤ gC) := Lib.hid (by rw [hgC]; exact SX.out.size)
          have NE : Hid (gp ≠ gC) := Lib.hid (by have := LP.out.arr.lt; omega)
          have SX' := Lib.hid (SX.out.belowN hb SX.out.size)
          have LA' := Lib.hid (lbel LA.out hb LA.out.arr.lt)
          have LP' := Lib.hid (lbel LP.out hb LP.out.arr.lt)
          have LB' := Lib.hid (lbel LB.out hb LB.out.arr.lt)
          clear SX LA LP LB
          have SX := SX'
          have LA := LA'
          have LP := LP'
          have LB := LB'
          clear hb SX' LA' LP' LB'
          have LC := Lib.hid hl
          clear hl hgC
          refine ⟨SX.out, ?_⟩
          simp only [Act.put, List.setIfInBounds_toArray, List.set_cons_zero, List.set_cons_succ]
          refine Held.t_one (i := 8) rfl rfl (by kernel_rfl) ?_
          refine Held.w_callx 35 _ _ rfl Try.func35 (by kernel_rfl) rfl [.slice (some ⟨gC, 0, none⟩) 255 255, .slice (some ⟨gp, 0, none⟩) 4 4] rfl (reduced_any (clm (revN a) (revN b)) p7 (by decide) gC 255 255 255 _ 127 rfl (by decide) gp 0 4 4 _ v18 LC.out LP.out NE.out) ?_
          rintro e v19 ⟨rfl, ⟨G, hl⟩, hG, hs⟩
          refine ⟨_, rfl, SX.out.belowN (Held.gb_below (B := w.heap.size + 3) hG SX.out.size (by intro q hq; cases hq; exact GC.out)) (Nat.le_refl _), ?_⟩
          simp only [Act.put, List.setIfInBounds_toArray, List.set_cons_zero, List.set_cons_succ]
          refine Held.t_assign (i := 9) rfl rfl (by kernel_rfl) (by kernel_rfl) (by kernel_rfl) (SX.out.belowN (Held.gb_below (B := w.heap.size + 3) hG SX.out.size (by intro q hq; cases hq; exact GC.out)) (Nat.le_refl _)) _ rfl (.slice (some ⟨gC, 0, none⟩) 128 255) rfl ?_
          simp only [Act.put, List.setIfInBounds_toArray, List.set_cons_zero, List.set_cons_succ]
          refine Held.t_end (by kernel_rfl) ?_
          go_wp2_with fail
          go_meet
          case rel => exact ⟨gC, 255, 255, G, rfl, LI.first (k := 128) hl (by decide), SX.out.belowN (Held.gb_below (B := w.heap.size + 3) hG SX.out.size (by intro q hq; cases hq; exact GC.out)) (Nat.le_refl _)⟩
      · refine w_four7 rfl ?_
        intro gp v20 hgp hl hb
        have SX' := Lib.hid (SX.out.belowN hb SX.out.size)
        clear SX 
        have SX := SX'
        clear hb SX' 
        have LP := Lib.hid hl
        clear hl hgp
        refine ⟨SX.out, ?_⟩
        simp only [Act.put, List.setIfInBounds_toArray, List.set_cons_zero, List.set_cons_succ]
        refine Held.t_one (i := 2) rfl rfl (by kernel_rfl) ?_
        refine Held.w_callx 33 _ _ rfl Try.func33 (by kernel_rfl) rfl [B16 (revN a)] rfl (little_any (revN a) v20) ?_
        rintro e v21 ⟨ga, ca, ma, Fa, rfl, hga, hl, hb⟩
        refine ⟨_, rfl, ?_⟩
        have SX' := Lib.hid (SX.out.belowN hb SX.out.size)
        have LP' := Lib.hid (lbel LP.out hb LP.out.arr.lt)
        clear SX LP
        have SX := SX'
        have LP := LP'
        clear hb SX' LP'
        have LA := Lib.hid hl
        clear hl hga
        refine ⟨SX.out, ?_⟩
        simp only [Act.put, List.setIfInBounds_toArray, List.set_cons_zero, List.set_cons_succ]
        refine Held.t_one (i := 4) rfl rfl (by kernel_rfl) ?_
        refine Held.w_call 37 _ _ rfl Try.func37 (by kernel_rfl) rfl [B16 b] rfl (rturned_num b v21) ?_
        intro v22 hb
        have SX' := Lib.hid (SX.out.belowN hb SX.out.size)
        have LP' := Lib.hid (lbel LP.out hb LP.out.arr.lt)
        have LA' := Lib.hid (lbel LA.out hb LA.out.arr.lt)
        clear SX LP LA
        have SX := SX'
        have LP := LP'
        have LA := LA'
        clear hb SX' LP' LA'
        refine ⟨SX.out, ?_⟩
        simp only [Act.put, List.setIfInBounds_toArray, List.set_cons_zero, List.set_cons_succ]
        refine Held.t_one (i := 5) rfl rfl (by kernel_rfl) ?_
        refine Held.w_callx 33 _ _ rfl Try.func33 (by kernel_rfl) rfl [B16 (revN b)] rfl (little_any (revN b) v22) ?_
        rintro e v23 ⟨gb, cb, mb, Fb, rfl, hgb, hl, hb⟩
        refine ⟨_, rfl, ?_⟩
        have SX' := Lib.hid (SX.out.belowN hb SX.out.size)
        have LP' := Lib.hid (lbel LP.out hb LP.out.arr.lt)
        have LA' := Lib.hid (lbel LA.out hb LA.out.arr.lt)
        clear SX LP LA
        have SX := SX'
        have LP := LP'
        have LA := LA'
        clear hb SX' LP' LA'
        have LB := Lib.hid hl
        clear hl hgb
        refine ⟨SX.out, ?_⟩
        simp only [Act.put, List.setIfInBounds_toArray, List.set_cons_zero, List.set_cons_succ]
        refine Held.t_one (i := 6) rfl rfl (by kernel_rfl) ?_
        refine Held.w_callx 36 _ _ rfl Try.func36 (by kernel_rfl) rfl [.slice (some ⟨ga, 0, none⟩) 128 ca, .slice (some ⟨gb, 0, none⟩) 128 cb] rfl (product_op (revN a) (revN b) ga ca ma Fa gb cb mb Fb v23 LA.out LB.out) ?_
        rintro e v24 ⟨gC, rfl, hgC, hl, hb⟩
        refine ⟨_, rfl, ?_⟩
        have GC : Hid (w.heap.size + 3 ≤ gC) := Lib.hid (by rw [hgC]; exact SX.out.size)
        have NE : Hid (gp ≠ gC) := Lib.hid (by have := LP.out.arr.lt; omega)
        have SX' := Lib.hid (SX.out.belowN hb SX.out.size)
        have LP' := Lib.hid (lbel LP.out hb LP.out.arr.lt)
        have LA' := Lib.hid (lbel LA.out hb LA.out.arr.lt)
        have LB' := Lib.hid (lbel LB.out hb LB.out.arr.lt)
        clear SX LP LA LB
        have SX := SX'
        have LP := LP'
        have LA := LA'
        have LB := LB'
        clear hb SX' LP' LA' LB'
        have LC := Lib.hid hl
        clear hl hgC
        refine ⟨SX.out, ?_⟩
        simp only [Act.put, List.setIfInBounds_toArray, List.set_cons_zero, List.set_cons_succ]
        refine Held.t_one (i := 8) rfl rfl (by kernel_rfl) ?_
        refine Held.w_callx 35 _ _ rfl Try.func35 (by kernel_rfl) rfl [.slice (some ⟨gC, 0, none⟩) 255 255, .slice (some ⟨gp, 0, none⟩) 4 4] rfl (reduced_any (clm (revN a) (revN b)) p7 (by decide) gC 255 255 255 _ 127 rfl (by decide) gp 0 4 4 _ v24 LC.out LP.out NE.out) ?_
        rintro e v25 ⟨rfl, ⟨G, hl⟩, hG, hs⟩
        refine ⟨_, rfl, SX.out.belowN (Held.gb_below (B := w.heap.size + 3) hG SX.out.size (by intro q hq; cases hq; exact GC.out)) (Nat.le_refl _), ?_⟩
        simp only [Act.put, List.setIfInBounds_toArray, List.set_cons_zero, List.set_cons_succ]
        refine Held.t_assign (i := 9) rfl rfl (by kernel_rfl) (by kernel_rfl) (by kernel_rfl) (SX.out.belowN (Held.gb_below (B := w.heap.size + 3) hG SX.out.size (by intro q hq; cases hq; exact GC.out)) (Nat.le_refl _)) _ rfl (.slice (some ⟨gC, 0, none⟩) 128 255) rfl ?_
        simp only [Act.put, List.setIfInBounds_toArray, List.set_cons_zero, List.set_cons_succ]
        refine Held.t_end (by kernel_rfl) ?_
        go_wp2_with fail
        go_meet
        case rel => exact ⟨gC, 255, 255, G, rfl, LI.first (k := 128) hl (by decide), SX.out.belowN (Held.gb_below (B := w.heap.size + 3) hG SX.out.size (by intro q hq; cases hq; exact GC.out)) (Nat.le_refl _)⟩
    · refine w_four7 rfl ?_
      intro gp v26 hgp hl hb
      have SX' := Lib.hid (SX.out.belowN hb SX.out.size)
      clear SX 
      have SX := SX'
      clear hb SX' 
      have LP := Lib.hid hl
      clear hl hgp
      refine ⟨SX.out, ?_⟩
      simp only [Act.put, List.setIfInBounds_toArray, List.set_cons_zero, List.set_cons_succ]
      refine Held.t_one (i := 1) rfl rfl (by kernel_rfl) ?_
      refine Held.w_call 37 _ _ rfl Try.func37 (by kernel_rfl) rfl [B16 a] rfl (rturned_num a v26) ?_
      intro v27 hb
      have SX' := Lib.hid (SX.out.belowN hb SX.out.size)
      have LP' := Lib.hid (lbel LP.out hb LP.out.arr.lt)
      clear SX LP
      have SX := SX'
      have LP := LP'
      clear hb SX' LP'
      refine ⟨SX.out, ?_⟩
      simp only [Act.put, List.setIfInBounds_toArray, List.set_cons_zero, List.set_cons_succ]
      refine Held.t_one (i := 2) rfl rfl (by kernel_rfl) ?_
      refine Held.w_callx 33 _ _ rfl Try.func33 (by kernel_rfl) rfl [B16 (revN a)] rfl (little_any (revN a) v27) ?_
      rintro e v28 ⟨ga, ca, ma, Fa, rfl, hga, hl, hb⟩
      refine ⟨_, rfl, ?_⟩
      have SX' := Lib.hid (SX.out.belowN hb SX.out.size)
      have LP' := Lib.hid (lbel LP.out hb LP.out.arr.lt)
      clear SX LP
      have SX := SX'
      have LP := LP'
      clear hb SX' LP'
      have LA := Lib.hid hl
      clear hl hga
      refine ⟨SX.out, ?_⟩
      simp only [Act.put, List.setIfInBounds_toArray, List.set_cons_zero, List.set_cons_succ]
      refine Held.t_one (i := 4) rfl rfl (by kernel_rfl) ?_
      refine Held.w_call 37 _ _ rfl Try.func37 (by kernel_rfl) rfl [B16 b] rfl (rturned_num b v28) ?_
      intro v29 hb
      have SX' := Lib.hid (SX.out.belowN hb SX.out.size)
      have LP' := Lib.hid (lbel LP.out hb LP.out.arr.lt)
      have LA' := Lib.hid (lbel LA.out hb LA.out.arr.lt)
      clear SX LP LA
      have SX := SX'
      have LP := LP'
      have LA := LA'
      clear hb SX' LP' LA'
      refine ⟨SX.out, ?_⟩
      simp only [Act.put, List.setIfInBounds_toArray, List.set_cons_zero, List.set_cons_succ]
      refine Held.t_one (i := 5) rfl rfl (by kernel_rfl) ?_
      refine Held.w_callx 33 _ _ rfl Try.func33 (by kernel_rfl) rfl [B16 (revN b)] rfl (little_any (revN b) v29) ?_
      rintro e v30 ⟨gb, cb, mb, Fb, rfl, hgb, hl, hb⟩
      refine ⟨_, rfl, ?_⟩
      have SX' := Lib.hid (SX.out.belowN hb SX.out.size)
      have LP' := Lib.hid (lbel LP.out hb LP.out.arr.lt)
      have LA' := Lib.hid (lbel LA.out hb LA.out.arr.lt)
      clear SX LP LA
      have SX := SX'
      have LP := LP'
      have LA := LA'
      clear hb SX' LP' LA'
      have LB := Lib.hid hl
      clear hl hgb
      refine ⟨SX.out, ?_⟩
      simp only [Act.put, List.setIfInBounds_toArray, List.set_cons_zero, List.set_cons_succ]
      refine Held.t_one (i := 6) rfl rfl (by kernel_rfl) ?_
      refine Held.w_callx 36 _ _ rfl Try.func36 (by kernel_rfl) rfl [.slice (some ⟨ga, 0, none⟩) 128 ca, .slice (some ⟨gb, 0, none⟩) 128 cb] rfl (product_op (revN a) (revN b) ga ca ma Fa gb cb mb Fb v30 LA.out LB.out) ?_
      rintro e v31 ⟨gC, rfl, hgC, hl, hb⟩
      refine ⟨_, rfl, ?_⟩
      have GC : Hid (w.heap.size + 3 ≤ gC) := Lib.hid (by rw [hgC]; exact SX.out.size)
      have NE : Hid (gp ≠ gC) := Lib.hid (by have := LP.out.arr.lt; omega)
      have SX' := Lib.hid (SX.out.belowN hb SX.out.size)
      have LP' := Lib.hid (lbel LP.out hb LP.out.arr.lt)
      have LA' := Lib.hid (lbel LA.out hb LA.out.arr.lt)
      have LB' := Lib.hid (lbel LB.out hb LB.out.arr.lt)
      clear SX LP LA LB
      have SX := SX'
      have LP := LP'
      have LA := LA'
      have LB := LB'
      clear hb SX' LP' LA' LB'
      have LC := Lib.hid hl
      clear hl hgC
      refine ⟨SX.out, ?_⟩
      simp only [Act.put, List.setIfInBounds_toArray, List.set_cons_zero, List.set_cons_succ]
      refine Held.t_one (i := 8) rfl rfl (by kernel_rfl) ?_
      refine Held.w_callx 35 _ _ rfl Try.func35 (by kernel_rfl) rfl [.slice (some ⟨gC, 0, none⟩) 255 255, .slice (some ⟨gp, 0, none⟩) 4 4] rfl (reduced_any (clm (revN a) (revN b)) p7 (by decide) gC 255 255 255 _ 127 rfl (by decide) gp 0 4 4 _ v31 LC.out LP.out NE.out) ?_
      rintro e v32 ⟨rfl, ⟨G, hl⟩, hG, hs⟩
      refine ⟨_, rfl, SX.out.belowN (Held.gb_below (B := w.heap.size + 3) hG SX.out.size (by intro q hq; cases hq; exact GC.out)) (Nat.le_refl _), ?_⟩
      simp only [Act.put, List.setIfInBounds_toArray, List.set_cons_zero, List.set_cons_succ]
      refine Held.t_assign (i := 9) rfl rfl (by kernel_rfl) (by kernel_rfl) (by kernel_rfl) (SX.out.belowN (Held.gb_below (B := w.heap.size + 3) hG SX.out.size (by intro q hq; cases hq; exact GC.out)) (Nat.le_refl _)) _ rfl (.slice (some ⟨gC, 0, none⟩) 128 255) rfl ?_
      simp only [Act.put, List.setIfInBounds_toArray, List.set_cons_zero, List.set_cons_succ]
      refine Held.t_end (by kernel_rfl) ?_
      go_wp2_with fail
      go_meet
      case rel => exact ⟨gC, 255, 255, G, rfl, LI.first (k := 128) hl (by decide), SX.out.belowN (Held.gb_below (B := w.heap.size + 3) hG SX.out.size (by intro q hq; cases hq; exact GC.out)) (Nat.le_refl _)⟩
  obtain ⟨g, cap, m, G, rfl, hl, hR⟩ := hcut
  have L5 := Lib.hid hl
  have R5 := Lib.hid hR
  clear hl hR H0
  go_wp2_with fail
  refine (fromLittle_any _ g 0 cap m G wc L5.out).mono ?_
  rintro e w6 ⟨rfl, hb6⟩
  have R6 := Lib.hid (R5.out.belowN hb6 R5.out.size)
  clear hb6 R5 L5
  go_wp2_with fail
  refine (rturned_num _ w6).mono ?_
  rintro e w7 ⟨rfl, hb7⟩
  have R7 := Lib.hid (R6.out.belowN hb7 R6.out.size)
  clear hb7 R6
  have E7 : Hid (revN (rd p7 127 (clm (revN a) (revN b)) % 2 ^ 128) = Frob.tm a b) := Lib.hid (by
    rw [Nat.mod_eq_of_lt (rd_phi mod7 127 _ (Nat.le_refl _) (clm_lt _ _)).2]; exact times_ref a b)
  generalize revN (rd p7 127 (clm (revN a) (revN b)) % 2 ^ 128) = q at E7 ⊢
  go_wp2_with (first | (refine wpList_store_arr rfl 48 _ _ rfl _ rfl rfl R7.out.r info16 ?_; intro w8 hA hG hS))
  exact ret_arr rfl rfl hA Try.underlying48 rfl info16 rfl ⟨by rw [E7.out], R7.out.bel.grown hG R7.out.bel.size (by intro j hj; cases hj; omega)⟩
end Go.Proofs.Ytfchbodbkdkcfaa.Ref
