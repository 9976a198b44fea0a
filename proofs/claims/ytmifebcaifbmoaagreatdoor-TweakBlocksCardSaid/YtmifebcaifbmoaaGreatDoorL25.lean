/- Parts of the proof of TweakBlocks. RS: The state of a function that works on a sector: its bytes, its own blocks of 16 bytes; laws of its regions. General. Md: What a cipher's functions read of it. General. -/
import Derived.Test.YtmifebcaifbmoaaGreatDoorL00
import Derived.Test.YtmifebcaifbmoaaGreatDoorL24
/- RS -/
section
namespace Go.Proofs.YtmifebcaifbmoaaGreatDoor.RS
open Go.RowKit Go.Lib Go.Proofs.YtmifebcaifbmoaaGreatDoor.Blk Go.Proofs.YtmifebcaifbmoaaGreatDoor.Poly Go.Proofs.YtmifebcaifbmoaaGreatDoor.Field Go.Proofs.YtmifebcaifbmoaaGreatDoor.Tw Go.Proofs.YtmifebcaifbmoaaGreatDoor.G

theorem z16 : (Tryz.prog.info? 27).bind (·.zero) = some (.agg (arr .u8 16 fun _ => 0)) := by kernel_rfl
/-- only block g changed of those that were; own blocks, with their numbers -/
structure RS (g : Nat) (l : List (Nat × Nat)) (w w' : World) : Prop where
  gb : w.grownBy w' (some g)
  own : ∀ p ∈ l, Arr w' p.1 .u8 16 27 (fun i => ((byt p.2 i : Nat) : Int)) ∧ w.heap.size ≤ p.1
  nd : (l.map Prod.fst).Nodup
  gl : g < w.heap.size
structure RZ (g n : Nat) (F : Nat → Nat) (l : List (Nat × Nat)) (w w' : World) : Prop where
  rs : RS g l w w'
  sec : Sec w' g n F
variable {g n : Nat} {F : Nat → Nat} {l : List (Nat × Nat)} {w w1 w2 : World}
theorem RS.tail {p : Nat × Nat} (h : RS g (p :: l) w w1) : RS g l w w1 := ⟨h.gb, fun q hq => h.own q (.tail _ hq), (List.nodup_cons.1 h.nd).2, h.gl⟩
theorem RZ.start (h : Sec w g n F) : RZ g n F [] w w := ⟨⟨gb_refl w _, (fun _ hm => by cases hm), List.nodup_nil, h.lt⟩, h⟩
theorem RS.bel (h : RS g l w w1) (hb : Below w1.heap.size w1 w2) : RS g l w w2 := ⟨gb_bel h.gb hb, fun p hp => ⟨Rj.bel_arr (_B := 0) (h.own p hp).1 hb, (h.own p hp).2⟩, h.nd, h.gl⟩
theorem RZ.bel (h : RZ g n F l w w1) (hb : Below w1.heap.size w1 w2) : RZ g n F l w w2 := ⟨h.rs.bel hb, h.sec.below hb⟩
theorem RZ.drew (h : RZ g n F l w w1) : RZ g n F l w w1.drew := h.bel (Below.refl _ _).drew
theorem RZ.put {F2 : Nat → Nat} (h : RZ g n F l w w1) (hg : w1.grownBy w2 (some g)) (hs : Sec w2 g n F2) : RZ g n F2 l w w2 :=
  ⟨⟨gb_trans h.rs.gb hg, fun p hp => ⟨(h.rs.own p hp).1.grown hg (by have := (h.rs.own p hp).2; have := h.rs.gl; omega), (h.rs.own p hp).2⟩, h.rs.nd, h.rs.gl⟩, hs⟩
theorem RZ.new {b : Nat} (h : RZ g n F l w w1) (hb : w1.heap.size = b) (ha : Arr w2 b .u8 16 27 (fun _ => 0)) (hg : w1.grownBy w2 none) : RZ g n F ((b, 0) :: l) w w2 := by
  have bl : Below w1.heap.size w1 w2 := ⟨hg.os, hg.tape, hg.output, hg.size, fun k hk => hg.block k hk (by simp)⟩
  have h2 := h.bel bl
  refine ⟨⟨h2.rs.gb, fun p hp => ?_, ?_, h.rs.gl⟩, h2.sec⟩
  · rcases List.mem_cons.1 hp with rfl | hp
    · exact ⟨ha.congr fun i _ => by simp [byt], by rw [← hb]; exact h.rs.gb.size⟩
    · exact h2.rs.own p hp
  · refine List.nodup_cons.2 ⟨fun hm => ?_, h.rs.nd⟩
    obtain ⟨p, hp, e⟩ := List.mem_map.1 hm
    have := (h.rs.own p hp).1.lt
    simp only at e
    omega
theorem sec_other {c : Nat} (h : Sec w1 g n F) (hg : w1.grownBy w2 (some c)) (hne : g ≠ c) : Sec w2 g n F := by
  obtain ⟨cur, c1, c2⟩ := h.c
  exact ⟨cur, (hg.block g (Array.getElem?_eq_some_iff.1 c1).1 (fun e => by cases e; exact hne rfl)).trans c1, c2⟩
theorem RZ.storeL {l1 l2 : List (Nat × Nat)} {b x y : Nat} (h : RZ g n F (l1 ++ (b, x) :: l2) w w1) (ha : Arr w2 b .u8 16 27 (fun i => ((byt y i : Nat) : Int))) (hg : w1.grownBy w2 (some b)) : RZ g n F (l1 ++ (b, y) :: l2) w w2 := by
  have hb := (h.rs.own (b, x) (by simp)).2
  have hgl := h.rs.gl
  simp only at hb
  have nd : ((l1 ++ (b, y) :: l2).map Prod.fst).Nodup := by
    have := h.rs.nd
    simpa only [List.map_append, List.map_cons] using this
  refine ⟨⟨⟨hg.os.trans h.rs.gb.os, hg.tape.trans h.rs.gb.tape, hg.output.trans h.rs.gb.output, Nat.le_trans h.rs.gb.size hg.size, fun j hj hne => (hg.block j (Nat.lt_of_lt_of_le hj h.rs.gb.size) (fun e => by cases e; omega)).trans (h.rs.gb.block j hj hne)⟩, fun p hp => ?_, nd, hgl⟩, sec_other h.sec hg (by omega)⟩
  have nd2 := h.rs.nd
  simp only [List.map_append, List.map_cons] at nd2
  obtain ⟨_, n2, n3⟩ := List.nodup_append.1 nd2
  have n4 := (List.nodup_cons.1 n2).1
  rcases List.mem_append.1 hp with hp | hp
  · refine ⟨((h.rs.own p (by simp [hp])).1).grown hg (fun e => ?_), (h.rs.own p (by simp [hp])).2⟩
    exact n3 p.1 (List.mem_map.2 ⟨p, hp, rfl⟩) b (by simp) e
  · rcases List.mem_cons.1 hp with rfl | hp
    · exact ⟨ha, hb⟩
    · refine ⟨((h.rs.own p (by simp [hp])).1).grown hg (fun e => ?_), (h.rs.own p (by simp [hp])).2⟩
      exact n4 (List.mem_map.2 ⟨p, hp, e⟩)
theorem RZ.store0 {b x y : Nat} (h : RZ g n F ((b, x) :: l) w w1) (ha : Arr w2 b .u8 16 27 (fun i => ((byt y i : Nat) : Int))) (hg : w1.grownBy w2 (some b)) : RZ g n F ((b, y) :: l) w w2 := RZ.storeL (l1 := []) h ha hg
theorem RZ.store1 {p : Nat × Nat} {b x y : Nat} (h : RZ g n F (p :: (b, x) :: l) w w1) (ha : Arr w2 b .u8 16 27 (fun i => ((byt y i : Nat) : Int))) (hg : w1.grownBy w2 (some b)) : RZ g n F (p :: (b, y) :: l) w w2 := RZ.storeL (l1 := [p]) h ha hg
theorem RZ.swap {p q : Nat × Nat} (h : RZ g n F (p :: q :: l) w w1) : RZ g n F (q :: p :: l) w w1 :=
  ⟨⟨h.rs.gb, fun x hx => h.rs.own x (by simp only [List.mem_cons] at hx ⊢; rcases hx with h | h | h <;> simp [h]), by
    have := h.rs.nd
    simp only [List.map_cons, List.nodup_cons, List.mem_cons, not_or] at this ⊢
    exact ⟨⟨fun e => this.1.1 e.symm, this.2.1⟩, this.1.2, this.2.2⟩, h.rs.gl⟩, h.sec⟩
theorem RZ.congr {F2 : Nat → Nat} (h : RZ g n F l w w1) (e : ∀ i, i < n → F i = F2 i) : RZ g n F2 l w w1 := ⟨h.rs, h.sec.congr e⟩
theorem RZ.kp (h : RZ g n F l w w1) {m : Nat} {F0 : Nat → Nat} (hS : Sec w g m F0) (hm : 0 < m) (hg : g ≠ 2) : Kp w w1 := Kp.of_gb hS hm hg h.rs.gb
section
variable {P : Program} {a : Act} {w : World} {o : Oper} {K : Act → World → Prop} {Q : Exit → Act → World → Prop}
theorem w_store (ty : TypeId) (x y : Operand) (ho : o.op = .store ty x y) (b : Nat) {k : IntKind} {n : Nat} {f f0 : Nat → Int} (hx : a.eval x = .pointer (some ⟨b, 0, none⟩)) (hy : a.eval y = .agg (arr k n f))
    {t : TypeId} (hA : Arr w b k n t f0) (hi : (P.info? ty).map (·.size) = some n) (h : ∀ w', Arr w' b k n t f → w.grownBy w' (some b) → w'.heap.size = w.heap.size → K (a.put o.dst undef) w') : o.wp P a w K Q :=
  wp_store_row ty x y ho b _ hx hy _ _ hA (by rw [arr_size]; exact hi) (by rw [arr_size, arr_size]) (arr_one _ _ _) (h _ (Rj.Arr_of_row hA) (Rj.gb_setRow w b _) (by simp))
end
section
variable {P : Program} {Q : Exit → Act → World → Prop} {S : World → Prop} {a : Act} {w : World} {fuel : Nat} {listed : Array Bool}
/-- one of three operations comes up -/
theorem t_three {i j k : Nat} {o o2 o3 : Oper} {tl tl2 tl3 l : List Oper} (hi : l.drop i = o :: tl) (hj : l.drop j = o2 :: tl2) (hk : l.drop k = o3 :: tl3) (hg : Region.wanted o (yielded l.toArray a.tmps) = true) (hg2 : Region.wanted o2 (yielded l.toArray a.tmps) = true) (hg3 : Region.wanted o3 (yielded l.toArray a.tmps) = true) (hr : Region.ready .any l.toArray listed = [i, j, k])
    (h : o.wp P a w (fun a' w' => S w' ∧ wpAnyH P .any l.toArray (NoPanic Q) S fuel (listed.setIfInBounds i true) a' w') (NoPanic Q))
    (h2 : o2.wp P a w (fun a' w' => S w' ∧ wpAnyH P .any l.toArray (NoPanic Q) S fuel (listed.setIfInBounds j true) a' w') (NoPanic Q))
    (h3 : o3.wp P a w (fun a' w' => S w' ∧ wpAnyH P .any l.toArray (NoPanic Q) S fuel (listed.setIfInBounds k true) a' w') (NoPanic Q)) : wpAnyH P .any l.toArray (NoPanic Q) S (fuel + 1) listed a w :=
  wpAnyH_all hr (by simp) fun m hm => by
    unfold wpOp
    rcases List.mem_cons.1 hm with rfl | hm
    · simp only [Step.drop_get hi]
      rw [if_pos hg]
      exact .inl h
    · rcases List.mem_cons.1 hm with rfl | hm
      · simp only [Step.drop_get hj]
        rw [if_pos hg2]
        exact .inl h2
      · obtain rfl : m = k := by simpa using hm
        simp only [Step.drop_get hk]
        rw [if_pos hg3]
        exact .inl h3
end
section
variable {P : Program} {a : Act} {w : World} {o : Oper} {K : Act → World → Prop} {Q : Exit → Act → World → Prop}
/-- bytes copied over the beginning of a block of one's own -/
theorem w_copyA (dT sT elem : TypeId) (x y : Operand) (ho : o.op = .call { callee := .builtin .copy, args := #[x, y], argTypes := #[dT, sT] }) (hu : P.underlying dT = some (.slice elem)) (hs : (P.info? elem).map (·.size) = some 1)
    (b N : Nat) (hx : a.eval x = .slice (some ⟨b, 0, none⟩) N N) (g so sLen sCap : Nat) (hy : a.eval y = .slice (some ⟨g, so, none⟩) sLen sCap) {T : TypeId} {f0 f : Nat → Nat} (hA : Arr w b .u8 N T (fun i => (f0 i : Nat))) (hc : ∀ i, i < sLen → w.cell? ⟨g, so + i, none⟩ = some (.int .u8 (f i : Nat))) (_hf : ∀ i, f i < 256) (hle : sLen ≤ N)
    (h : ∀ w', Arr w' b .u8 N T (fun i => ((if i < sLen then f i else f0 i : Nat) : Int)) → w.grownBy w' (some b) → K (a.put o.dst (.int .i64 sLen)) w') : o.wp P a w K Q := by
  refine Tw.w_copy dT sT elem x y ho hu hs b 0 N N hx ⟨g, so, none⟩ sLen sCap hy (Push.bl f sLen) hA (by rw [Push.bl_len]; exact (Nat.min_eq_left hle).symm) (fun j v hj => ?_) (by rw [Push.bl_len, arr_size]; omega) (fun v hv => ?_) ?_
  · have hl : j < sLen := by have := (List.getElem?_eq_some_iff.1 hj).1; rwa [Push.bl_len] at this
    rw [Push.bl_get _ _ _ hl] at hj
    rw [Addr.add_mid, ← hj]
    exact hc j hl
  · obtain ⟨i, hi⟩ := List.mem_iff_getElem?.1 hv
    have hl : i < sLen := by have := (List.getElem?_eq_some_iff.1 hi).1; rwa [Push.bl_len] at this
    rw [Push.bl_get _ _ _ hl] at hi
    cases hi
    rfl
  · rw [Push.bl_len]
    refine h _ ?_ ⟨rfl, rfl, rfl, by simp, fun x _ hc => setRow_other w b x _ (fun e => hc (by rw [e]))⟩
    have e := setRow_heap w b _ (Tree.patch (arr .u8 N fun i => (f0 i : Nat)) 0 (Push.bl f sLen)) T (0, 0) hA
    unfold Arr
    rw [e]
    refine congrArg (fun z => some (Obj.cells z T (0, 0))) (Array.ext_getElem? fun i => ?_)
    rw [Tw.patch_get _ _ _ (by rw [Push.bl_len, arr_size]; omega), Push.bl_len, Nat.zero_add, Nat.sub_zero]
    by_cases h1 : i < sLen
    · rw [if_pos ⟨Nat.zero_le _, h1⟩, Push.bl_get _ _ _ h1, arr_get _ _ _ _ (by omega), if_pos h1]
    · rw [if_neg (by omega)]
      by_cases h2 : i < N
      · rw [arr_get _ _ _ _ h2, arr_get _ _ _ _ h2, if_neg h1]
      · rw [Array.getElem?_eq_none (by rw [arr_size]; omega), Array.getElem?_eq_none (by rw [arr_size]; omega)]
/-- bytes copied into a sector -/
theorem w_copyS (dT sT elem : TypeId) (x y : Operand) (ho : o.op = .call { callee := .builtin .copy, args := #[x, y], argTypes := #[dT, sT] }) (hu : P.underlying dT = some (.slice elem)) (hs : (P.info? elem).map (·.size) = some 1)
    (g so dLen dCap : Nat) (hx : a.eval x = .slice (some ⟨g, so, none⟩) dLen dCap) (b sLen sCap : Nat) (hy : a.eval y = .slice (some ⟨b, 0, none⟩) sLen sCap) {n : Nat} {F f : Nat → Nat} (hS : Sec w g n F) (hc : ∀ i, i < sLen → w.cell? ⟨b, i, none⟩ = some (.int .u8 (f i : Nat))) (hle : sLen = dLen ∧ so + dLen ≤ n)
    (h : ∀ w', Sec w' g n (fun i => if so ≤ i ∧ i < so + sLen then f (i - so) else F i) → w.grownBy w' (some g) → K (a.put o.dst (.int .i64 sLen)) w') : o.wp P a w K Q := by
  obtain ⟨cur, h1, h2, h3⟩ := hS.c
  refine Tw.w_copy dT sT elem x y ho hu hs g so dLen dCap hx ⟨b, 0, none⟩ sLen sCap hy (Push.bl f sLen) h1 (by rw [Push.bl_len]; exact (Nat.min_eq_left (by omega)).symm) (fun j v hj => ?_) (by rw [Push.bl_len]; omega) (fun v hv => ?_) ?_
  · have hl : j < sLen := by have := (List.getElem?_eq_some_iff.1 hj).1; rwa [Push.bl_len] at this
    rw [Push.bl_get _ _ _ hl] at hj
    rw [Addr.add_mid, ← hj, Nat.zero_add]
    exact hc j hl
  · obtain ⟨i, hi⟩ := List.mem_iff_getElem?.1 hv
    have hl : i < sLen := by have := (List.getElem?_eq_some_iff.1 hi).1; rwa [Push.bl_len] at this
    rw [Push.bl_get _ _ _ hl] at hi
    cases hi
    rfl
  · rw [Push.bl_len]
    refine h _ ⟨_, setRow_heap w g _ _ _ (0, 0) h1, by rw [Tree.patch_size _ _ _ (by rw [Push.bl_len]; omega)]; exact h2, fun i hi => ?_⟩ ⟨rfl, rfl, rfl, by simp, fun x _ hc => setRow_other w g x _ (fun e => hc (by rw [e]))⟩
    rw [Tw.patch_get _ _ _ (by rw [Push.bl_len]; omega), Push.bl_len]
    by_cases hin : so ≤ i ∧ i < so + sLen
    · rw [if_pos hin, if_pos hin, Push.bl_get _ _ _ (by omega)]
    · rw [if_neg hin, if_neg hin]
      exact h3 i hi
end
section
variable {P : Program} {w : World}
/-- the beginning of an array behind a pointer -/
theorem run_sliceHi {t e : TypeId} {n : Nat} (hu : P.underlying t = some (.array n e)) (hi' : (P.info? e).map (·.size) = some 1) (b hi : Nat) (hn : 0 < n) (hhn : hi ≤ n) : (Instr.sliceAt t (.pointer (some ⟨b, 0, none⟩)) none (some (.int .i64 hi)) none).run P w = .ok (.slice (some ⟨b, 0, none⟩) hi n) w := by
  cases hie : P.info? e with
  | none => simp [hie] at hi'
  | some ie =>
    simp only [hie, Option.map_some, Option.some.injEq] at hi'
    have hs : (sizeOf e).run P w = .ok 1 w := by simp [sizeOf, typeInfo, hie, hi']
    have h3 : ¬ n = 0 := by omega
    simp [Instr.sliceAt, go_sem, run_underlying hu, hs, Instr.sliceBounds, Instr.sliceBound, Instr.sureAddr, asIntOf, hhn]
end
end Go.Proofs.YtmifebcaifbmoaaGreatDoor.RS
namespace Go.Proofs.YtmifebcaifbmoaaGreatDoor.RS
open Go.RowKit Go.Lib Go.Proofs.YtmifebcaifbmoaaGreatDoor.Blk Go.Proofs.YtmifebcaifbmoaaGreatDoor.Poly Go.Proofs.YtmifebcaifbmoaaGreatDoor.Field Go.Proofs.YtmifebcaifbmoaaGreatDoor.Tw Go.Proofs.YtmifebcaifbmoaaGreatDoor.G
/-- nothing of what was changed; own blocks, with their numbers -/
structure RB (l : List (Nat × Nat)) (w w' : World) : Prop where
  bel : Below w.heap.size w w'
  own : ∀ p ∈ l, Arr w' p.1 .u8 16 27 (fun i => ((byt p.2 i : Nat) : Int)) ∧ w.heap.size ≤ p.1
  nd : (l.map Prod.fst).Nodup
variable {l : List (Nat × Nat)} {w w1 w2 : World}
theorem RB.tail {p : Nat × Nat} (h : RB (p :: l) w w1) : RB l w w1 := ⟨h.bel, fun q hq => h.own q (.tail _ hq), (List.nodup_cons.1 h.nd).2⟩
theorem RB.start (w : World) : RB [] w w := ⟨Below.refl _ _, (fun _ hm => by cases hm), List.nodup_nil⟩
theorem RB.bel_ (h : RB l w w1) (hb : Below w1.heap.size w1 w2) : RB l w w2 := ⟨h.bel.trans (hb.mono h.bel.size), fun p hp => ⟨Rj.bel_arr (_B := 0) (h.own p hp).1 hb, (h.own p hp).2⟩, h.nd⟩
theorem RB.drew (h : RB l w w1) : RB l w w1.drew := h.bel_ (Below.refl _ _).drew
theorem RB.new {b : Nat} (h : RB l w w1) (hb : w1.heap.size = b) (ha : Arr w2 b .u8 16 27 (fun _ => 0)) (hg : w1.grownBy w2 none) : RB ((b, 0) :: l) w w2 := by
  have bl : Below w1.heap.size w1 w2 := ⟨hg.os, hg.tape, hg.output, hg.size, fun k hk => hg.block k hk (by simp)⟩
  have h2 := h.bel_ bl
  refine ⟨h2.bel, fun p hp => ?_, ?_⟩
  · rcases List.mem_cons.1 hp with rfl | hp
    · exact ⟨ha.congr fun i _ => by simp [byt], by rw [← hb]; exact h.bel.size⟩
    · exact h2.own p hp
  · refine List.nodup_cons.2 ⟨fun hm => ?_, h.nd⟩
    obtain ⟨p, hp, e⟩ := List.mem_map.1 hm
    have := (h.own p hp).1.lt
    simp only at e
    omega
theorem RB.storeL {l1 l2 : List (Nat × Nat)} {b x y : Nat} (h : RB (l1 ++ (b, x) :: l2) w w1) (ha : Arr w2 b .u8 16 27 (fun i => ((byt y i : Nat) : Int))) (hg : w1.grownBy w2 (some b)) : RB (l1 ++ (b, y) :: l2) w w2 := by
  have hb := (h.own (b, x) (by simp)).2
  simp only at hb
  have nd : ((l1 ++ (b, y) :: l2).map Prod.fst).Nodup := by
    have := h.nd
    simpa only [List.map_append, List.map_cons] using this
  refine ⟨h.bel.grown hg h.bel.size (fun j hj => by cases hj; exact hb), fun p hp => ?_, nd⟩
  have nd2 := h.nd
  simp only [List.map_append, List.map_cons] at nd2
  obtain ⟨_, n2, n3⟩ := List.nodup_append.1 nd2
  have n4 := (List.nodup_cons.1 n2).1
  rcases List.mem_append.1 hp with hp | hp
  · refine ⟨((h.own p (by simp [hp])).1).grown hg (fun e => ?_), (h.own p (by simp [hp])).2⟩
    exact n3 p.1 (List.mem_map.2 ⟨p, hp, rfl⟩) b (by simp) e
  · rcases List.mem_cons.1 hp with rfl | hp
    · exact ⟨ha, hb⟩
    · refine ⟨((h.own p (by simp [hp])).1).grown hg (fun e => ?_), (h.own p (by simp [hp])).2⟩
      exact n4 (List.mem_map.2 ⟨p, hp, e⟩)
theorem RB.store0 {b x y : Nat} (h : RB ((b, x) :: l) w w1) (ha : Arr w2 b .u8 16 27 (fun i => ((byt y i : Nat) : Int))) (hg : w1.grownBy w2 (some b)) : RB ((b, y) :: l) w w2 := RB.storeL (l1 := []) h ha hg
theorem RB.store1 {p : Nat × Nat} {b x y : Nat} (h : RB (p :: (b, x) :: l) w w1) (ha : Arr w2 b .u8 16 27 (fun i => ((byt y i : Nat) : Int))) (hg : w1.grownBy w2 (some b)) : RB (p :: (b, y) :: l) w w2 := RB.storeL (l1 := [p]) h ha hg
theorem RB.swap {p q : Nat × Nat} (h : RB (p :: q :: l) w w1) : RB (q :: p :: l) w w1 :=
  ⟨h.bel, fun x hx => h.own x (by simp only [List.mem_cons] at hx ⊢; rcases hx with h | h | h <;> simp [h]), by
    have := h.nd
    simp only [List.map_cons, List.nodup_cons, List.mem_cons, not_or] at this ⊢
    exact ⟨⟨fun e => this.1.1 e.symm, this.2.1⟩, this.1.2, this.2.2⟩⟩
end Go.Proofs.YtmifebcaifbmoaaGreatDoor.RS
end

/- Md -/
section
namespace Go.Proofs.YtmifebcaifbmoaaGreatDoor.G
open Go.RowKit Go.Lib Go.Proofs.YtmifebcaifbmoaaGreatDoor.Blk Go.Proofs.YtmifebcaifbmoaaGreatDoor.Poly Go.Proofs.YtmifebcaifbmoaaGreatDoor.Field Go.Proofs.YtmifebcaifbmoaaGreatDoor.Tab Go.Proofs.YtmifebcaifbmoaaGreatDoor.Tw

/-- a cipher's blocks -/
structure RdW (k cb xb gk : Nat) (cs : Array Value) (w : World) : Prop where
  cb : ∃ sl un, w.heap[cb]? = some (.cells #[.pointer (some ⟨xb, 0, none⟩), .pointer (some ⟨gk, k * 7, none⟩), sl, un] 80 (0, 0))
  xb : w.heap[xb]? = some (.cells cs 96 (0, 0))
  kd : ∃ d, KindsAt gk d w
theorem RdW.kp {k cb xb gk : Nat} {cs : Array Value} {w w' : World} (h : RdW k cb xb gk cs w) (q : Kp w w') : RdW k cb xb gk cs w' := by
  obtain ⟨s, u, e⟩ := h.cb
  obtain ⟨d, hd⟩ := h.kd
  exact ⟨⟨s, u, q.cells e (by decide)⟩, q.cells h.xb (by decide), d, hd.kp q⟩
theorem RdW.c0 {k cb xb gk : Nat} {cs : Array Value} {w : World} (h : RdW k cb xb gk cs w) : w.cell? ⟨cb, 0, none⟩ = some (.pointer (some ⟨xb, 0, none⟩)) := by
  obtain ⟨s, u, e⟩ := h.cb
  rw [cell_of_row w _ _ _ _ _ e]
  rfl
theorem RdW.c1 {k cb xb gk : Nat} {cs : Array Value} {w : World} (h : RdW k cb xb gk cs w) : w.cell? ⟨cb, 1, none⟩ = some (.pointer (some ⟨gk, k * 7, none⟩)) := by
  obtain ⟨s, u, e⟩ := h.cb
  rw [cell_of_row w _ _ _ _ _ e]
  rfl
theorem kind3 (d : Nat) : ∀ k, k < 17 → (kindL d k)[3]? = (kindL 0 k)[3]?
  | 0, _ | 1, _ | 2, _ | 3, _ | 4, _ | 5, _ | 6, _ | 7, _ | 8, _ | 9, _ | 10, _ | 11, _ | 12, _ | 13, _ | 14, _ | 15, _ | 16, _ => rfl
  | k + 17, hk => absurd hk (by omega)
theorem RdW.ks {k cb xb gk : Nat} {cs : Array Value} {w : World} (h : RdW k cb xb gk cs w) (hk : k < 17) {v : Value} (hv : (kindL 0 k)[3]? = some v) : w.cell? ⟨gk, k * 7 + 3, none⟩ = some v := by
  obtain ⟨d, hd⟩ := h.kd
  exact hd.c k hk 3 v ((kind3 d k hk).trans hv)
theorem RdW.cx {k cb xb gk : Nat} {cs : Array Value} {w : World} (h : RdW k cb xb gk cs w) {i : Nat} {v : Value} (hv : cs[i]? = some v) : w.cell? ⟨xb, i, none⟩ = some v := by
  rw [cell_of_row w _ _ _ _ _ h.xb]
  exact hv
/-- all that a mode's function leans on -/
structure Md (k cb xb gk : Nat) (E D A : Nat → Nat) (two : Bool) (fl wh : Nat → Nat) (cs : Array Value) (iv : Nat → Nat → Nat) (w : World) : Prop where
  hk : k < 17
  rd : RdW k cb xb gk cs w
  ky : KeyR E D A two fl wh cs w
  st : ∀ sf, (kindL 0 k)[3]? = some (fv sf) → FnOk sf ∧ StAt sf xb iv w
theorem Md.kp {k cb xb gk : Nat} {E D A : Nat → Nat} {two : Bool} {fl wh : Nat → Nat} {cs : Array Value} {iv : Nat → Nat → Nat} {w w' : World} (h : Md k cb xb gk E D A two fl wh cs iv w) (q : Kp w w') : Md k cb xb gk E D A two fl wh cs iv w' :=
  ⟨h.hk, h.rd.kp q, h.ky.kq q.q, fun sf e => ⟨(h.st sf e).1, (h.st sf e).2.kp q⟩⟩
end Go.Proofs.YtmifebcaifbmoaaGreatDoor.G
end
