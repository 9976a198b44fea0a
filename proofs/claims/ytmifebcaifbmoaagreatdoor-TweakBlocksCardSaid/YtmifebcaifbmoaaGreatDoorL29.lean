/- Parts of the proof of TweakBlocks. Dig0: Numbers whose values don't matter: laws of walks, and rows of cells told by a property of each. General; rotations. -/
import Derived.Test.YtmifebcaifbmoaaGreatDoorL00
import Derived.Test.YtmifebcaifbmoaaGreatDoorL18
/- Dig0 -/
section
namespace Go.Proofs.YtmifebcaifbmoaaGreatDoor.Dig
open Go.RowKit Go.Lib Go.Proofs.YtmifebcaifbmoaaGreatDoor.Blk

section
variable {P : Program} {ops : Array Oper} {Q : Exit → Act → World → Prop} {Q2 : Act → Prop} {C : World → Prop} {o : Oper} {rest : List Oper} {a : Act} {w : World}
theorem p_int (hg : Region.wanted o (yielded ops a.tmps) = true) (k : IntKind) (h0 : ∃ z, ∀ w, (execOp a.eval o).run P w = .ok (.value (.int k z)) w) (h : ∀ z, wpList P ops Q rest (a.put o.dst (.int k z)) w) : wpList P ops Q (o :: rest) a w := by
  obtain ⟨z, hz⟩ := h0
  exact Step.p_val hg _ (hz w) (h z)
theorem s_int (hg : Region.wanted o (yielded ops a.tmps) = true) (k : IntKind) (h0 : ∃ z, ∀ w, (execOp a.eval o).run P w = .ok (.value (.int k z)) w) (h : ∀ z, wpStill P ops w Q2 rest (a.put o.dst (.int k z))) : wpStill P ops w Q2 (o :: rest) a := by
  obtain ⟨z, hz⟩ := h0
  exact Still.s_val hg _ (hz w) (h z)
theorem q_int (hg : Region.wanted o (yielded ops a.tmps) = true) (k : IntKind) (h0 : ∃ z, ∀ w, (execOp a.eval o).run P w = .ok (.value (.int k z)) w) (h : ∀ z, wpQuiet P ops C Q2 rest (a.put o.dst (.int k z))) : wpQuiet P ops C Q2 (o :: rest) a := by
  obtain ⟨z, hz⟩ := h0
  exact Step.q_pure hg _ hz (h z)
end

section
variable {P : Program} {o : Oper} {a : Act}
theorem ex_bin (op : BinOp) (hop : op = .add ∨ op = .sub ∨ op = .mul ∨ op = .and ∨ op = .or ∨ op = .xor) (t r : TypeId) (x y : Operand) (ho : o.op = .binOp op t x y r) (k : IntKind) (m n : Int) (hx : a.eval x = .int k m) (hy : a.eval y = .int k n) : ∃ z, ∀ w, (execOp a.eval o).run P w = .ok (.value (.int k z)) w := by
  rcases hop with rfl | rfl | rfl | rfl | rfl | rfl
  all_goals
    apply Exists.intro
    intro w
    unfold execOp
    rw [ho]
    simp only [hx, hy]
    go_simp
    rfl
theorem ex_shl (t r : TypeId) (x y : Operand) (ho : o.op = .binOp .shl t x y r) (k k2 : IntKind) (m : Int) (n : Nat) (hx : a.eval x = .int k m) (hy : a.eval y = .int k2 n) : ∃ z, ∀ w, (execOp a.eval o).run P w = .ok (.value (.int k z)) w := by
  apply Exists.intro
  intro w
  unfold execOp
  rw [ho]
  simp only [hx, hy]
  go_simp
  rfl
theorem ex_shr (t r : TypeId) (x y : Operand) (ho : o.op = .binOp .shr t x y r) (k k2 : IntKind) (m : Int) (n : Nat) (hx : a.eval x = .int k m) (hy : a.eval y = .int k2 n) : ∃ z, ∀ w, (execOp a.eval o).run P w = .ok (.value (.int k z)) w := by
  apply Exists.intro
  intro w
  unfold execOp
  rw [ho]
  simp only [hx, hy]
  go_simp
  rfl
theorem ex_conv (t r : TypeId) (x : Operand) (ho : o.op = .convert t r x) (k k2 : IntKind) (m : Int) (hx : a.eval x = .int k m) (hu : P.underlying t = some (.int k)) (hr : P.underlying r = some (.int k2)) : ∃ z, ∀ w, (execOp a.eval o).run P w = .ok (.value (.int k2 z)) w := by
  apply Exists.intro
  intro w
  unfold execOp
  rw [ho]
  simp only [hx]
  go_simp
  rfl
theorem ex_not (t : TypeId) (x : Operand) (ho : o.op = .unOp .xor t x) (k : IntKind) (m : Int) (hx : a.eval x = .int k m) : ∃ z, ∀ w, (execOp a.eval o).run P w = .ok (.value (.int k z)) w := by
  apply Exists.intro
  intro w
  unfold execOp
  rw [ho]
  simp only [hx]
  go_simp
  rfl
end

section
variable {P : Program} {Q : Exit → Act → World → Prop} {S : World → Prop} {a : Act} {w : World} {fuel : Nat} {listed : Array Bool} {i : Nat} {o : Oper} {tl l : List Oper}
theorem t_int (hi : l.drop i = o :: tl) (hg : Region.wanted o (yielded l.toArray a.tmps) = true) (hs : Region.noSelect l.toArray = true) (hf : Region.free .any l.toArray listed i = true) (hr : (Region.ready .any l.toArray listed).contains i = true) (hS : S w) (k : IntKind) (h0 : ∃ z, ∀ w, (execOp a.eval o).run P w = .ok (.value (.int k z)) w)
    (h : ∀ z, wpAnyH P .any l.toArray (NoPanic Q) S fuel (listed.setIfInBounds i true) (a.put o.dst (.int k z)) w) : wpAnyH P .any l.toArray (NoPanic Q) S (fuel + 1) listed a w := by
  obtain ⟨z, hz⟩ := h0
  exact Step.t_val hi hg hs hf hr hS _ (fun w _ => hz w) (h z)
end
section
variable {P : Program} {Q : Exit → Act → World → Prop} {S : World → Prop} {a : Act} {w : World} {fuel : Nat} {listed : Array Bool} {i : Nat} {o : Oper} {tl l : List Oper}
theorem t_idxA (hi : l.drop i = o :: tl) (hg : Region.wanted o (yielded l.toArray a.tmps) = true) (hs : Region.noSelect l.toArray = true) (hf : Region.free .any l.toArray listed i = true) (hr : (Region.ready .any l.toArray listed).contains i = true) (hS : S w) (t e : TypeId) (x ix : Operand) (ho : o.op = .indexAddr t x ix) (b off : Nat) (hx : a.eval x = .pointer (some ⟨b, off, none⟩)) (k : IntKind) (j : Nat) (hj : a.eval ix = .int k j) {n size : Nat} (hlt : j < n)
    (hu : P.underlying t = some (.array n e)) (hi' : (P.info? e).map (·.size) = some size) (off2 : Nat) (ho2 : off + j * size = off2) (h : wpAnyH P .any l.toArray (NoPanic Q) S fuel (listed.setIfInBounds i true) (a.put o.dst (.pointer (some ⟨b, off2, none⟩))) w) : wpAnyH P .any l.toArray (NoPanic Q) S (fuel + 1) listed a w :=
  Step.t_val hi hg hs hf hr hS _ (fun w _ => by
    subst ho2
    unfold execOp
    simp only [ho, hx, hj, Sem.run_bind, Still.run_idxA hu hi' b off k j hlt w, Result.andThen_ok, Sem.run_pure]) h
end
/-- a block told by a property of each of its cells -/
def RowP (w : World) (b : Nat) (T : TypeId) (n : Nat) (p : Nat → Value → Prop) : Prop := ∃ cs : Array Value, w.heap[b]? = some (.cells cs T (0, 0)) ∧ cs.size = n ∧ ∀ j, j < n → ∃ v, cs[j]? = some v ∧ p j v
theorem RowP.lt {w : World} {b : Nat} {T : TypeId} {n : Nat} {p : Nat → Value → Prop} (h : RowP w b T n p) : b < w.heap.size := by
  obtain ⟨cs, h1, _⟩ := h
  exact (Array.getElem?_eq_some_iff.1 h1).1
theorem RowP.cell {w : World} {b : Nat} {T : TypeId} {n : Nat} {p : Nat → Value → Prop} (h : RowP w b T n p) {j : Nat} (hj : j < n) : ∃ v, w.cell? ⟨b, j, none⟩ = some v ∧ p j v := by
  obtain ⟨cs, h1, _, h3⟩ := h
  obtain ⟨v, e, hp⟩ := h3 j hj
  exact ⟨v, by rw [cell_of_row w b j _ _ _ h1]; exact e, hp⟩
theorem RowP.below {w w' : World} {b B : Nat} {T : TypeId} {n : Nat} {p : Nat → Value → Prop} (h : RowP w b T n p) (hb : Below B w w') (hB : b < B) : RowP w' b T n p := by
  obtain ⟨cs, h1, h2⟩ := h
  exact ⟨cs, (hb.block b hB).trans h1, h2⟩
theorem RowP.other {w w' : World} {b c : Nat} {T : TypeId} {n : Nat} {p : Nat → Value → Prop} (h : RowP w b T n p) (hg : w.grownBy w' (some c)) (hne : b ≠ c) : RowP w' b T n p := by
  obtain ⟨cs, h1, h2⟩ := h
  exact ⟨cs, (hg.block b (Array.getElem?_eq_some_iff.1 h1).1 (fun e => hne (Option.some.inj e))).trans h1, h2⟩
theorem RowP.drew {w : World} {b : Nat} {T : TypeId} {n : Nat} {p : Nat → Value → Prop} (h : RowP w b T n p) : RowP w.drew b T n p := h
theorem RowP.alloc {w : World} {b : Nat} {T : TypeId} {n : Nat} {p : Nat → Value → Prop} (h : RowP w b T n p) (ob : Obj) : RowP (w.alloc ob) b T n p := h.below ((Below.refl _ _).alloc (Nat.le_refl _) ob) h.lt
/-- a cell written -/
theorem RowP.put {w w' : World} {b : Nat} {T : TypeId} {n : Nat} {p : Nat → Value → Prop} {cs : Array Value} (h : RowP w b T n p) (hc : w.heap[b]? = some (.cells cs T (0, 0))) {j : Nat} {v : Value} (hv : p j v) (h' : w'.heap[b]? = some (.cells (cs.setIfInBounds j v) T (0, 0))) : RowP w' b T n p := by
  obtain ⟨cs', e1, e2, e3⟩ := h
  rw [hc] at e1
  cases e1
  refine ⟨_, h', by simpa using e2, fun i hi => ?_⟩
  obtain ⟨u, hu, hpu⟩ := e3 i hi
  by_cases hij : j = i
  · subst hij
    exact ⟨v, by rw [Array.getElem?_setIfInBounds_self_of_lt (Array.getElem?_eq_some_iff.1 hu).1], hv⟩
  · exact ⟨u, by rw [Array.getElem?_setIfInBounds_ne hij]; exact hu, hpu⟩
/-- a property that says: a number of a kind -/
def isInt (k : IntKind) (_ : Nat) (v : Value) : Prop := ∃ z, v = .int k z
theorem RowP.num {w : World} {b : Nat} {T : TypeId} {n : Nat} {k : IntKind} (h : RowP w b T n (isInt k)) {j : Nat} (hj : j < n) : ∃ z, w.cell? ⟨b, j, none⟩ = some (.int k z) := by
  obtain ⟨v, e, z, rfl⟩ := h.cell hj
  exact ⟨z, e⟩
theorem rowP_of_arr {w : World} {b : Nat} {T : TypeId} {n : Nat} {k : IntKind} {f : Nat → Int} (h : Arr w b k n T f) : RowP w b T n (isInt k) :=
  ⟨_, h, arr_size _ _ _, fun _j hj => ⟨_, arr_get _ _ _ _ hj, _, rfl⟩⟩
section
variable {P : Program} {ops : Array Oper} {Q : Exit → Act → World → Prop} {o : Oper} {rest : List Oper} {a : Act} {w : World}
/-- a number stored into such a block -/
theorem p_storeP (hgd : o.guard = none) (t : TypeId) (x y : Operand) (ho : o.op = .store t x y) (b off : Nat) (hx : a.eval x = .pointer (some ⟨b, off, none⟩)) (k : IntKind) (z : Int) (hy : a.eval y = .int k z) (hi : (P.info? t).map (·.size) = some 1) {T : TypeId} {n : Nat} {p : Nat → Value → Prop} (hb : RowP w b T n p) (hol : off < n) (hp : p off (.int k z))
    (h : ∀ w', RowP w' b T n p → w.grownBy w' (some b) → w'.heap.size = w.heap.size → wpList P ops Q rest (a.put o.dst undef) w') : wpList P ops Q (o :: rest) a w := by
  have hb2 := hb
  obtain ⟨cs, h1, h2, _⟩ := hb2
  exact Step.p_storeV hgd t x y ho b off hx (.int k z) hy (fun _ e => by cases e) rfl hi h1 (by omega) fun w' e1 e2 e3 => h w' (hb.put h1 hp e1) e2 e3
end

/-- bytes, whatever they are -/
def BU (w : World) (q : Option Addr) (n B : Nat) : Prop := ∀ i, i < n → ∃ g off, q = some ⟨g, off, none⟩ ∧ g < B ∧ ∃ z, w.cell? ⟨g, off + i, none⟩ = some (.int .u8 z)
theorem BU.next {w w' : World} {q : Option Addr} {n B C : Nat} (h : BU w q n B) (hb : ∀ g off z, g < B → w.cell? ⟨g, off, none⟩ = some (.int .u8 z) → w'.cell? ⟨g, off, none⟩ = some (.int .u8 z)) (hBC : B ≤ C) : BU w' q n C := fun i hi => by
  obtain ⟨g, off, e, hg, z, hz⟩ := h i hi
  exact ⟨g, off, e, Nat.lt_of_lt_of_le hg hBC, z, hb g _ z hg hz⟩
theorem cell_keep {w w' : World} {c g off : Nat} {v : Value} (hg : w.grownBy w' (some c)) (hne : g ≠ c) (h : w.cell? ⟨g, off, none⟩ = some v) : w'.cell? ⟨g, off, none⟩ = some v := by
  rw [← h]
  unfold World.cell?
  rw [hg.block g (Frame.block_lt h) (fun e => hne (Option.some.inj e))]
/-- words, whatever they are, in a variable's block -/
def WordsAt (g n : Nat) (w : World) : Prop := ∀ i, i < n → ∃ z, w.cell? ⟨g, i, none⟩ = some (.int .u64 z)
theorem WordsAt.below {g n : Nat} {w w' : World} (h : WordsAt g n w) (hb : Below w.heap.size w w') : WordsAt g n w' := fun i hi => by
  obtain ⟨z, hz⟩ := h i hi
  exact ⟨z, (hb.cell (p := ⟨g, i, none⟩) (Frame.block_lt hz)).trans hz⟩
theorem WordsAt.keep {g n c : Nat} {w w' : World} (h : WordsAt g n w) (hg : w.grownBy w' (some c)) (hne : g ≠ c) : WordsAt g n w' := fun i hi => by
  obtain ⟨z, hz⟩ := h i hi
  exact ⟨z, cell_keep hg hne hz⟩
/-- what a digest of blocks runs in: the words' block, the bytes, the roots -/
structure NW (hb nh : Nat) (T : TypeId) (p : Nat → Value → Prop) (cg cn : Nat) (q : Option Addr) (n : Nat) (w w' : World) : Prop where
  h : RowP w' hb T nh p
  bu : BU w' q n w.heap.size
  cu : WordsAt cg cn w'
  gb : w.grownBy w' (some hb)
  hl : hb < w.heap.size
  ne : cg ≠ hb
section
variable {hb nh : Nat} {T : TypeId} {p : Nat → Value → Prop} {cg cn : Nat} {q : Option Addr} {n : Nat} {w w1 w2 : World}
/-- a block of one's own is written -/
theorem NW.own (h : NW hb nh T p cg cn q n w w1) {c : Nat} (hg : w1.grownBy w2 (some c)) (hc : w.heap.size ≤ c) (hcg : cg < w.heap.size) : NW hb nh T p cg cn q n w w2 :=
  ⟨h.h.other hg (by have := h.hl; omega), h.bu.next (fun g off z hg' hz => cell_keep hg (by omega) hz) (Nat.le_refl _), h.cu.keep hg (by omega),
    ⟨hg.os.trans h.gb.os, hg.tape.trans h.gb.tape, hg.output.trans h.gb.output, Nat.le_trans h.gb.size hg.size, fun k hk hne => (hg.block k (Nat.lt_of_lt_of_le hk h.gb.size) (fun e => by cases e; omega)).trans (h.gb.block k hk hne)⟩, h.hl, h.ne⟩
theorem NW.below (h : NW hb nh T p cg cn q n w w1) (hg : Below w1.heap.size w1 w2) : NW hb nh T p cg cn q n w w2 :=
  ⟨h.h.below hg h.h.lt, h.bu.next (fun g off _z _ hz => (hg.cell (p := ⟨g, off, none⟩) (Frame.block_lt hz)).trans hz) (Nat.le_refl _), h.cu.below hg,
    ⟨hg.os.trans h.gb.os, hg.tape.trans h.gb.tape, hg.output.trans h.gb.output, Nat.le_trans h.gb.size hg.size, fun k hk hne => (hg.block k (Nat.lt_of_lt_of_le hk h.gb.size)).trans (h.gb.block k hk hne)⟩, h.hl, h.ne⟩
theorem NW.drew (h : NW hb nh T p cg cn q n w w1) : NW hb nh T p cg cn q n w w1.drew := h.below (Below.refl _ _).drew
/-- a word of the digest is written -/
theorem NW.put (h : NW hb nh T p cg cn q n w w1) {j : Nat} {cs : Array Value} {z z0 : Int} (hc : w1.heap[hb]? = some (.cells cs T (0, 0))) (h0 : w1.cell? ⟨hb, j, none⟩ = some (.int .u64 z0)) (hp : RowP w2 hb T nh p) (h' : w2.heap[hb]? = some (.cells (cs.setIfInBounds j (.int .u64 z)) T (0, 0))) (hg : w1.grownBy w2 (some hb)) : NW hb nh T p cg cn q n w w2 :=
  ⟨hp, h.bu.next (fun g off y _ hy => by
    by_cases e : g = hb
    · subst e
      by_cases e2 : off = j
      · subst e2
        rw [h0] at hy
        cases hy
      · rw [cell_of_row w1 g off _ _ _ hc] at hy
        rw [cell_of_row w2 g off _ _ _ h', Array.getElem?_setIfInBounds_ne (fun e => e2 e.symm)]
        exact hy
    · exact cell_keep hg e hy) (Nat.le_refl _), h.cu.keep hg h.ne, gb_trans h.gb hg, h.hl, h.ne⟩
/-- fewer bytes -/
theorem NW.cut {g off : Nat} (h : NW hb nh T p cg cn (some ⟨g, off, none⟩) n w w1) (d n2 : Nat) (hd : d + n2 ≤ n) : NW hb nh T p cg cn (some ⟨g, off + d, none⟩) n2 w w1 :=
  ⟨h.h, fun i hi => by
    obtain ⟨g', off', e', hg, z, hz⟩ := h.bu (d + i) (by omega)
    cases e'
    exact ⟨g, off + d, rfl, hg, z, by rw [Nat.add_assoc]; exact hz⟩, h.cu, h.gb, h.hl, h.ne⟩
theorem NW.none_ {q : Option Addr} (h : NW hb nh T p cg cn q n w w1) (q2 : Option Addr) : NW hb nh T p cg cn q2 0 w w1 := ⟨h.h, fun i hi => absurd hi (Nat.not_lt_zero i), h.cu, h.gb, h.hl, h.ne⟩
end
section
variable {P : Program} {ops : Array Oper} {Q : Exit → Act → World → Prop} {o : Oper} {rest : List Oper} {a : Act} {w : World}
/-- the same store, with the cells told -/
theorem p_storeR (hgd : o.guard = none) (t : TypeId) (x y : Operand) (ho : o.op = .store t x y) (b off : Nat) (hx : a.eval x = .pointer (some ⟨b, off, none⟩)) (k : IntKind) (z : Int) (hy : a.eval y = .int k z) (hi : (P.info? t).map (·.size) = some 1) {T : TypeId} {n : Nat} {p : Nat → Value → Prop} (hb : RowP w b T n p) (hol : off < n) (hp : p off (.int k z))
    (h : ∀ w' cs, w.heap[b]? = some (.cells cs T (0, 0)) → w'.heap[b]? = some (.cells (cs.setIfInBounds off (.int k z)) T (0, 0)) → RowP w' b T n p → w.grownBy w' (some b) → w'.heap.size = w.heap.size → wpList P ops Q rest (a.put o.dst undef) w') : wpList P ops Q (o :: rest) a w := by
  have hb2 := hb
  obtain ⟨cs, h1, h2, _⟩ := hb2
  exact Step.p_storeV hgd t x y ho b off hx (.int k z) hy (fun _ e => by cases e) rfl hi h1 (by omega) fun w' e1 e2 e3 => h w' cs h1 e1 (hb.put h1 hp e1) e2 e3
end
theorem w_storeP {P : Program} {a : Act} {w : World} {o : Oper} {K : Act → World → Prop} {Q : Exit → Act → World → Prop} (t : TypeId) (x y : Operand) (ho : o.op = .store t x y) (b off : Nat) (hx : a.eval x = .pointer (some ⟨b, off, none⟩)) (k : IntKind) (z : Int) (hy : a.eval y = .int k z) (hi : (P.info? t).map (·.size) = some 1) {T : TypeId} {n : Nat} {p : Nat → Value → Prop} (hb : RowP w b T n p) (hol : off < n) (hp : p off (.int k z))
    (h : ∀ w', RowP w' b T n p → w.grownBy w' (some b) → (∀ j, j ≠ off → w'.cell? ⟨b, j, none⟩ = w.cell? ⟨b, j, none⟩) → K (a.put o.dst undef) w') : o.wp P a w K Q := by
  have hb2 := hb
  obtain ⟨cs, h1, h2, _⟩ := hb2
  refine Step.w_storeV t x y ho b off hx (.int k z) hy (fun _ e => by cases e) rfl hi h1 (by omega) fun w' e1 e2 e3 => h w' (hb.put h1 hp e1) e2 fun j hj => ?_
  rw [cell_of_row w b j _ _ _ h1, cell_of_row w' b j _ _ _ e1, Array.getElem?_setIfInBounds_ne (fun e => hj e.symm)]
def rotZ (x : Int) (s : Nat) : Int := bits .or .u32 (IntKind.u32.wrap (x * 2 ^ s)) (x / 2 ^ (32 - s))
set_option maxHeartbeats 1000000 in
/-- a turned word: some word -/
theorem rot_any (k : Int) (s : Nat) (hk : bits .and .u64 (IntKind.u64.wrap k) 31 = (s : Int)) (hs : s ≤ 31) (x : Int) : ∃ z, ∀ w, Calls Tryz.prog 186 #[.int .u32 x, .int .i64 k] w fun e w' => e = .returned (.int .u32 z) ∧ w = w' := by
  refine ⟨rotZ x s, fun w => ?_⟩
  have HK := Lib.hid hk
  clear hk
  go_enter Tryz.func186, Tryz.ntmps186
  go_upto_region 2 with fail
  rw [HK.out]
  refine wp_region_lit ?_
  refine Step.p_move rfl _ rfl (.int .u32 x) rfl ?_
  simp only [Act.put, sA9, sB9, sC9]
  refine Step.p_move rfl _ rfl (.int .u64 s) rfl ?_
  simp only [Act.put, sA9, sB9, sC9]
  refine Step.p_val rfl (.int .u32 (IntKind.u32.wrap (x * 2 ^ s))) (by unfold execOp; go_simp) ?_
  simp only [Act.put, sA9, sB9, sC9]
  refine Step.p_move rfl _ rfl (.int .u32 x) rfl ?_
  simp only [Act.put, sA9, sB9, sC9]
  refine Step.p_move rfl _ rfl (.int .u64 s) rfl ?_
  simp only [Act.put, sA9, sB9, sC9]
  refine Step.p_val rfl (.int .u64 (32 - s : Nat)) (by unfold execOp; go_simp; exact (IntWalk.u64_in _ (by omega)).trans (by omega)) ?_
  simp only [Act.put, sA9, sB9, sC9]
  refine Step.p_val rfl (.int .u32 (x / 2 ^ (32 - s))) (by unfold execOp; go_simp) ?_
  simp only [Act.put, sA9, sB9, sC9]
  refine Step.p_val rfl (.int .u32 (rotZ x s)) (by unfold execOp; go_simp; try rfl) ?_
  simp only [Act.put, sA9, sB9, sC9]
  refine Step.p_assign rfl _ rfl (.int .u32 (rotZ x s)) rfl ?_
  simp only [Act.put, sA9, sB9, sC9]
  refine wpList_nil ?_
  go_wp2
  go_ret
  exact ⟨rfl, rfl⟩
end Go.Proofs.YtmifebcaifbmoaaGreatDoor.Dig
end
