/- rekey.again and rekey.copied: metadata in new memory. -/
import Derived.Test.YtfchbodbkdkcfaaDoorLate
namespace Go.Proofs.YtfchbodbkdkcfaaDoor.Meta
open Go.RowKit Go.Lib Go.Proofs.YtfchbodbkdkcfaaDoor.Coll


set_option maxRecDepth 100000 in
theorem again_slots (q : Option Addr) (n c : Nat) (news : List Value) (w : World) (hl : news.length = n * 9) (hq : q = none → n = 0 ∧ c = 0) (hs : ∀ j u, news[j]? = some u → ∃ g off, q = some ⟨g, off, none⟩ ∧ w.cell? ⟨g, off + j, none⟩ = some u) (h1 : ∀ u ∈ news, u.oneCell' = true) (hm : n ≤ maxLen) (hb : n * 88 ≤ 140737488355328) :
    Calls Tryd.prog 86 #[.slice q n c] w fun e w' => ∃ q2 c2, e = .returned (.slice q2 n c2) ∧ w'.ownsRow w.heap.size 90 9 (.slice q2 n c2) n news ∧ w.grownBy w' none := by
  obtain ⟨i0, a1, a2, a3, a4⟩ := info_of (t := 90) (z := .agg #[.int .i64 0, .int .i64 0, .int .i64 0, .int .i64 0, .string ⟨#[]⟩, .string ⟨#[]⟩, .int .i64 0, .int .i64 0, .int .i64 0]) (s := 9) (b := 88) (by kernel_rfl)
  go_enter Tryd.func86, Tryd.ntmps86
  go_upto_region 1 with fail
  refine wp_region_lit ?_
  refine Step.p_move rfl _ rfl (.slice q n c) rfl ?_
  simp only [Act.put, List.setIfInBounds_toArray, List.set_cons_zero, List.set_cons_succ]
  refine App.wpList_append_src w rfl _ _ 47 rfl w.heap.size 90 i0 (.agg #[.int .i64 0, .int .i64 0, .int .i64 0, .int .i64 0, .string ⟨#[]⟩, .string ⟨#[]⟩, .int .i64 0, .int .i64 0, .int .i64 0]) 9 88 Tryd.underlying47 a1 a2 a3 a4 rfl (by decide) (.slice none 0 0) 0 [] rfl (World.ownsRow_nil _ _ _ _) q n c news rfl hl hq hs h1 (by omega) (by omega) (Nat.le_refl _) ?_
  intro v w2 ho hg _
  rw [Nat.zero_add, List.nil_append] at ho
  obtain ⟨q2, c2, rfl⟩ : ∃ q2 c2, v = .slice q2 n c2 := by
    rcases ho.2 with ⟨h, h0⟩ | ⟨g, cap, cur, hv, _⟩
    · exact ⟨_, _, by rw [h0]; exact h⟩
    · exact ⟨_, _, hv⟩
  simp only [Act.put, List.setIfInBounds_toArray, List.set_cons_zero, List.set_cons_succ]
  refine Step.p_assign rfl _ rfl (.slice q2 n c2) rfl ?_
  refine wpList_nil ?_
  simp only [Act.put, List.setIfInBounds_toArray, List.set_cons_zero, List.set_cons_succ]
  have HO := Lib.hid ho
  have HG := Lib.hid hg
  clear ho hg
  go_wp2
  go_ret
  exact ⟨q2, c2, rfl, HO.out, HG.out⟩

set_option maxRecDepth 100000 in
theorem again_epochs (q : Option Addr) (n c : Nat) (news : List Value) (w : World) (hl : news.length = n * 5) (hq : q = none → n = 0 ∧ c = 0) (hs : ∀ j u, news[j]? = some u → ∃ g off, q = some ⟨g, off, none⟩ ∧ w.cell? ⟨g, off + j, none⟩ = some u) (h1 : ∀ u ∈ news, u.oneCell' = true) (hm : n ≤ maxLen) (hb : n * 72 ≤ 140737488355328) :
    Calls Tryd.prog 87 #[.slice q n c] w fun e w' => ∃ q2 c2, e = .returned (.slice q2 n c2) ∧ w'.ownsRow w.heap.size 64 5 (.slice q2 n c2) n news ∧ w.grownBy w' none := by
  obtain ⟨i0, a1, a2, a3, a4⟩ := info_of (t := 64) (z := .agg #[.int .u64 0, .string ⟨#[]⟩, .string ⟨#[]⟩, .string ⟨#[]⟩, .string ⟨#[]⟩]) (s := 5) (b := 72) (by kernel_rfl)
  go_enter Tryd.func87, Tryd.ntmps87
  go_upto_region 1 with fail
  refine wp_region_lit ?_
  refine Step.p_move rfl _ rfl (.slice q n c) rfl ?_
  simp only [Act.put, List.setIfInBounds_toArray, List.set_cons_zero, List.set_cons_succ]
  refine App.wpList_append_src w rfl _ _ 48 rfl w.heap.size 64 i0 (.agg #[.int .u64 0, .string ⟨#[]⟩, .string ⟨#[]⟩, .string ⟨#[]⟩, .string ⟨#[]⟩]) 5 72 Tryd.underlying48 a1 a2 a3 a4 rfl (by decide) (.slice none 0 0) 0 [] rfl (World.ownsRow_nil _ _ _ _) q n c news rfl hl hq hs h1 (by omega) (by omega) (Nat.le_refl _) ?_
  intro v w2 ho hg _
  rw [Nat.zero_add, List.nil_append] at ho
  obtain ⟨q2, c2, rfl⟩ : ∃ q2 c2, v = .slice q2 n c2 := by
    rcases ho.2 with ⟨h, h0⟩ | ⟨g, cap, cur, hv, _⟩
    · exact ⟨_, _, by rw [h0]; exact h⟩
    · exact ⟨_, _, hv⟩
  simp only [Act.put, List.setIfInBounds_toArray, List.set_cons_zero, List.set_cons_succ]
  refine Step.p_assign rfl _ rfl (.slice q2 n c2) rfl ?_
  refine wpList_nil ?_
  simp only [Act.put, List.setIfInBounds_toArray, List.set_cons_zero, List.set_cons_succ]
  have HO := Lib.hid ho
  have HG := Lib.hid hg
  clear ho hg
  go_wp2
  go_ret
  exact ⟨q2, c2, rfl, HO.out, HG.out⟩

set_option maxRecDepth 100000 in
theorem again_segs (q : Option Addr) (n c : Nat) (news : List Value) (w : World) (hl : news.length = n * 3) (hq : q = none → n = 0 ∧ c = 0) (hs : ∀ j u, news[j]? = some u → ∃ g off, q = some ⟨g, off, none⟩ ∧ w.cell? ⟨g, off + j, none⟩ = some u) (h1 : ∀ u ∈ news, u.oneCell' = true) (hm : n ≤ maxLen) (hb : n * 24 ≤ 140737488355328) :
    Calls Tryd.prog 88 #[.slice q n c] w fun e w' => ∃ q2 c2, e = .returned (.slice q2 n c2) ∧ w'.ownsRow w.heap.size 92 3 (.slice q2 n c2) n news ∧ w.grownBy w' none := by
  obtain ⟨i0, a1, a2, a3, a4⟩ := info_of (t := 92) (z := .agg #[.int .u64 0, .int .u64 0, .int .u64 0]) (s := 3) (b := 24) (by kernel_rfl)
  go_enter Tryd.func88, Tryd.ntmps88
  go_upto_region 1 with fail
  refine wp_region_lit ?_
  refine Step.p_move rfl _ rfl (.slice q n c) rfl ?_
  simp only [Act.put, List.setIfInBounds_toArray, List.set_cons_zero, List.set_cons_succ]
  refine App.wpList_append_src w rfl _ _ 49 rfl w.heap.size 92 i0 (.agg #[.int .u64 0, .int .u64 0, .int .u64 0]) 3 24 Tryd.underlying49 a1 a2 a3 a4 rfl (by decide) (.slice none 0 0) 0 [] rfl (World.ownsRow_nil _ _ _ _) q n c news rfl hl hq hs h1 (by omega) (by omega) (Nat.le_refl _) ?_
  intro v w2 ho hg _
  rw [Nat.zero_add, List.nil_append] at ho
  obtain ⟨q2, c2, rfl⟩ : ∃ q2 c2, v = .slice q2 n c2 := by
    rcases ho.2 with ⟨h, h0⟩ | ⟨g, cap, cur, hv, _⟩
    · exact ⟨_, _, by rw [h0]; exact h⟩
    · exact ⟨_, _, hv⟩
  simp only [Act.put, List.setIfInBounds_toArray, List.set_cons_zero, List.set_cons_succ]
  refine Step.p_assign rfl _ rfl (.slice q2 n c2) rfl ?_
  refine wpList_nil ?_
  simp only [Act.put, List.setIfInBounds_toArray, List.set_cons_zero, List.set_cons_succ]
  have HO := Lib.hid ho
  have HG := Lib.hid hg
  clear ho hg
  go_wp2
  go_ret
  exact ⟨q2, c2, rfl, HO.out, HG.out⟩

set_option maxRecDepth 100000 in
theorem again_toks (q : Option Addr) (n c : Nat) (news : List Value) (w : World) (hl : news.length = n * 4) (hq : q = none → n = 0 ∧ c = 0) (hs : ∀ j u, news[j]? = some u → ∃ g off, q = some ⟨g, off, none⟩ ∧ w.cell? ⟨g, off + j, none⟩ = some u) (h1 : ∀ u ∈ news, u.oneCell' = true) (hm : n ≤ maxLen) (hb : n * 64 ≤ 140737488355328) :
    Calls Tryd.prog 89 #[.slice q n c] w fun e w' => ∃ q2 c2, e = .returned (.slice q2 n c2) ∧ w'.ownsRow w.heap.size 41 4 (.slice q2 n c2) n news ∧ w.grownBy w' none := by
  obtain ⟨i0, a1, a2, a3, a4⟩ := info_of (t := 41) (z := .agg #[.int .i64 0, .string ⟨#[]⟩, .slice none 0 0, .string ⟨#[]⟩]) (s := 4) (b := 64) (by kernel_rfl)
  go_enter Tryd.func89, Tryd.ntmps89
  go_upto_region 1 with fail
  refine wp_region_lit ?_
  refine Step.p_move rfl _ rfl (.slice q n c) rfl ?_
  simp only [Act.put, List.setIfInBounds_toArray, List.set_cons_zero, List.set_cons_succ]
  refine App.wpList_append_src w rfl _ _ 54 rfl w.heap.size 41 i0 (.agg #[.int .i64 0, .string ⟨#[]⟩, .slice none 0 0, .string ⟨#[]⟩]) 4 64 Tryd.underlying54 a1 a2 a3 a4 rfl (by decide) (.slice none 0 0) 0 [] rfl (World.ownsRow_nil _ _ _ _) q n c news rfl hl hq hs h1 (by omega) (by omega) (Nat.le_refl _) ?_
  intro v w2 ho hg _
  rw [Nat.zero_add, List.nil_append] at ho
  obtain ⟨q2, c2, rfl⟩ : ∃ q2 c2, v = .slice q2 n c2 := by
    rcases ho.2 with ⟨h, h0⟩ | ⟨g, cap, cur, hv, _⟩
    · exact ⟨_, _, by rw [h0]; exact h⟩
    · exact ⟨_, _, hv⟩
  simp only [Act.put, List.setIfInBounds_toArray, List.set_cons_zero, List.set_cons_succ]
  refine Step.p_assign rfl _ rfl (.slice q2 n c2) rfl ?_
  refine wpList_nil ?_
  simp only [Act.put, List.setIfInBounds_toArray, List.set_cons_zero, List.set_cons_succ]
  have HO := Lib.hid ho
  have HG := Lib.hid hg
  clear ho hg
  go_wp2
  go_ret
  exact ⟨q2, c2, rfl, HO.out, HG.out⟩

set_option maxRecDepth 100000 in
theorem again_ints (q : Option Addr) (n c : Nat) (news : List Value) (w : World) (hl : news.length = n * 1) (hq : q = none → n = 0 ∧ c = 0) (hs : ∀ j u, news[j]? = some u → ∃ g off, q = some ⟨g, off, none⟩ ∧ w.cell? ⟨g, off + j, none⟩ = some u) (h1 : ∀ u ∈ news, u.oneCell' = true) (hm : n ≤ maxLen) (hb : n * 8 ≤ 140737488355328) :
    Calls Tryd.prog 90 #[.slice q n c] w fun e w' => ∃ q2 c2, e = .returned (.slice q2 n c2) ∧ w'.ownsRow w.heap.size 3 1 (.slice q2 n c2) n news ∧ w.grownBy w' none := by
  obtain ⟨i0, a1, a2, a3, a4⟩ := info_of (t := 3) (z := .int .i64 0) (s := 1) (b := 8) (by kernel_rfl)
  go_enter Tryd.func90, Tryd.ntmps90
  go_upto_region 1 with fail
  refine wp_region_lit ?_
  refine Step.p_move rfl _ rfl (.slice q n c) rfl ?_
  simp only [Act.put, List.setIfInBounds_toArray, List.set_cons_zero, List.set_cons_succ]
  refine App.wpList_append_src w rfl _ _ 39 rfl w.heap.size 3 i0 (.int .i64 0) 1 8 Tryd.underlying39 a1 a2 a3 a4 rfl (by decide) (.slice none 0 0) 0 [] rfl (World.ownsRow_nil _ _ _ _) q n c news rfl hl hq hs h1 (by omega) (by omega) (Nat.le_refl _) ?_
  intro v w2 ho hg _
  rw [Nat.zero_add, List.nil_append] at ho
  obtain ⟨q2, c2, rfl⟩ : ∃ q2 c2, v = .slice q2 n c2 := by
    rcases ho.2 with ⟨h, h0⟩ | ⟨g, cap, cur, hv, _⟩
    · exact ⟨_, _, by rw [h0]; exact h⟩
    · exact ⟨_, _, hv⟩
  simp only [Act.put, List.setIfInBounds_toArray, List.set_cons_zero, List.set_cons_succ]
  refine Step.p_assign rfl _ rfl (.slice q2 n c2) rfl ?_
  refine wpList_nil ?_
  simp only [Act.put, List.setIfInBounds_toArray, List.set_cons_zero, List.set_cons_succ]
  have HO := Lib.hid ho
  have HG := Lib.hid hg
  clear ho hg
  go_wp2
  go_ret
  exact ⟨q2, c2, rfl, HO.out, HG.out⟩
/-- tokens whose slots lie in unlike blocks -/
def tokB (d : TokD) : Option Nat := (Value.slice d.q d.n d.cap).ownBlock
def TokDist (k : Nat) (T : List TokD) : Prop := ∀ i j (hi : i < T.length) (hj : j < T.length), i < j → j < k → ∀ g, tokB (T[i]'hi) = some g → tokB (T[j]'hj) ≠ some g
/-- between the rounds of copied's tokens -/
structure DW (B : Nat) (w : World) (m : MetaD) (vs ve vg vt : Value) (k : Nat) (T : List TokD) (wr : World) : Prop where
  gr : w.grownBy wr none
  sz : B ≤ wr.heap.size
  s : wr.ownsRow B 90 9 vs m.slots.length (m.slots.flatMap slotC)
  e : wr.ownsRow B 64 5 ve m.epochs.length (m.epochs.flatMap epochC)
  g : wr.ownsRow B 92 3 vg m.segs.length (m.segs.flatMap sgC)
  len : T.length = m.toks.length
  t : wr.ownsRow B 41 4 vt m.toks.length (T.flatMap tokC)
  tok : ∀ i (h : i < m.toks.length) (h2 : i < T.length), i < k → TokCp B wr (m.toks[i]'h) (T[i]'h2)
  old : ∀ i, k ≤ i → T[i]? = m.toks[i]?
  dist : TokDist k T
theorem DW.step {B : Nat} {w wr w' : World} {m : MetaD} {vs ve vg vt : Value} {k : Nat} {T : List TokD} (h : DW B w m vs ve vg vt k T wr) {ob : Option Nat} (hg : wr.grownBy w' ob) (ho : ∀ b, ob = some b → w.heap.size ≤ b ∧ b < B) : DW B w m vs ve vg vt k T w' := by
  have off : ∀ {e : TypeId}, Off wr B e ob := fun b hb => .inl (ho b hb).2
  exact ⟨Tree.grown_trans h.gr hg (fun b hb => (ho b hb).1), Nat.le_trans h.sz hg.size, own_off h.s hg off, own_off h.e hg off, own_off h.g hg off, h.len, own_off h.t hg off, fun i h1 h2 h3 => (h.tok i h1 h2 h3).off hg off, h.old, h.dist⟩
theorem DW.store {B : Nat} {w wr : World} {m : MetaD} {vs ve vg : Value} {g kt k : Nat} {T : List TokD} (h : DW B w m vs ve vg (.slice (some ⟨g, 0, none⟩) m.toks.length kt) k T wr) (hB : w.heap.size ≤ B) (hk : k < m.toks.length)
    {q : Option Addr} {c : Nat} (hown : wr.ownsRow B 3 1 (.slice q (m.toks[k]'hk).n c) (m.toks[k]'hk).n (intC (m.toks[k]'hk).f (m.toks[k]'hk).n))
    (hf : ∀ x, (Value.slice q (m.toks[k]'hk).n c).ownBlock = some x → ∀ i (hi : i < T.length), i < k → tokB (T[i]'hi) ≠ some x) :
    DW B w m vs ve vg (.slice (some ⟨g, 0, none⟩) m.toks.length kt) (k + 1) (setTok T k q c) (wr.setCell ⟨g, k * 4 + 2, none⟩ (.slice q (m.toks[k]'hk).n c)) := by
  have hkT : k < T.length := by rw [h.len]; exact hk
  have hTk : T[k]'hkT = m.toks[k]'hk := by
    have := h.old k (Nat.le_refl _)
    rw [List.getElem?_eq_getElem hkT, List.getElem?_eq_getElem hk] at this
    exact Option.some.inj this
  obtain ⟨h1, h2⟩ := h.t.stored (k * 4 + 2) (.slice q (m.toks[k]'hk).n c)
  have hgB : B ≤ g := (Step.own_lt h.t (g := g) rfl).1
  rw [← hTk, ← setTok_flat T k q c hkT] at h1
  have off : ∀ {e : TypeId}, 41 ≠ e → Off wr B e (some g) := fun he => own_typed h.t he B
  refine ⟨Tree.grown_trans h.gr h2 (fun b hb => by cases hb; omega), Nat.le_trans h.sz h2.size, own_off h.s h2 (off (by decide)), own_off h.e h2 (off (by decide)), own_off h.g h2 (off (by decide)), by rw [setTok_len, h.len], by rw [← hTk]; exact h1, fun i hi hi2 hik => ?_, fun i hi => ?_, fun i j hi hj hij hjk x hx => ?_⟩
  · by_cases e : i = k
    · subst e
      rw [setTok_at T i _ c hkT, hTk]
      exact ⟨rfl, rfl, rfl, rfl, rfl, own_off hown h2 (off (by decide))⟩
    · have hi3 : i < T.length := by rw [h.len]; exact hi
      have e2 : (setTok T k q c)[i]'hi2 = T[i]'hi3 := by
        have := setTok_ne T k i q c e
        rw [List.getElem?_eq_getElem hi2, List.getElem?_eq_getElem hi3] at this
        exact Option.some.inj this
      rw [e2]
      exact (h.tok i hi hi3 (by omega)).off h2 (off (by decide))
  · rw [setTok_ne T k i q c (by omega)]
    exact h.old i (by omega)
  · have ne : ∀ l (hl : l < (setTok T k q c).length) (hl2 : l < T.length), l ≠ k → (setTok T k q c)[l]'hl = T[l]'hl2 := fun l hl hl2 e => by
      have := setTok_ne T k l q c e
      rw [List.getElem?_eq_getElem hl, List.getElem?_eq_getElem hl2] at this
      exact Option.some.inj this
    have hiT : i < T.length := by rw [← setTok_len T k q c]; exact hi
    have hjT : j < T.length := by rw [← setTok_len T k q c]; exact hj
    rw [ne i hi hiT (by omega)] at hx
    by_cases e : j = k
    · subst e
      rw [setTok_at T j q c hkT, hTk]
      intro hy
      exact hf x hy i hiT hij hx
    · rw [ne j hj hjT e]
      exact h.dist i j hiT hjT hij (by omega) x hx


set_option maxRecDepth 100000 in
set_option maxHeartbeats 8000000 in
theorem copied_any (m : MetaD) (p : Places) (w : World) (h : MIn w m p) : Calls Tryd.prog 64 #[metaV m p] w fun e w' => ∃ T qs ks qe ke qg kg qt kt, e = .returned (metaV { m with toks := T } ⟨qs, ks, qe, ke, qg, kg, qt, kt⟩) ∧
    CW w.heap.size w m (.slice qs m.slots.length ks) (.slice qe m.epochs.length ke) (.slice qg m.segs.length kg) (.slice qt m.toks.length kt) m.toks.length T w' ∧ TokDist T.length T := by
  have HM := Lib.hid h
  clear h
  rw [metaV_eq]
  have x11 : (metaA m p)[11]? = some (.slice p.qs m.slots.length p.ks) := rfl
  have x12 : (metaA m p)[12]? = some (.slice p.qe m.epochs.length p.ke) := rfl
  have x13 : (metaA m p)[13]? = some (.slice p.qg m.segs.length p.kg) := rfl
  have x26 : (metaA m p)[26]? = some (.slice p.qt m.toks.length p.kt) := rfl
  have hs27 : (metaA m p).size = 27 := rfl
  have h1c : (metaA m p).all (·.oneCell') = true := by rw [← Array.all_toList]; rfl
  have hi27 : (Tryd.prog.info? 56).map (·.size) = some 27 := by kernel_rfl
  generalize hcs : metaA m p = cs at *
  have HCS := Lib.hid hcs
  clear hcs
  go_enter Tryd.func64, Tryd.ntmps64
  go_upto_region 1 with fail
  have o0 : ((w.alloc (.cells cs 56)).alloc (.cells metaZ 56)).heap[w.heap.size]? = some (.cells cs 56 (0, 0)) := by rw [heap_alloc_old _ _ (by simp)]; exact heap_alloc_new w _
  have o1 : ((w.alloc (.cells cs 56)).alloc (.cells metaZ 56)).heap[w.heap.size + 1]? = some (.cells metaZ 56 (0, 0)) := by
    have := heap_alloc_new (w.alloc (.cells cs 56)) (.cells metaZ 56)
    simpa using this
  have b1 : w.grownBy ((w.alloc (.cells cs 56)).alloc (.cells metaZ 56)) none := Tree.grown_trans (World.grownBy_alloc w _ none) (World.grownBy_alloc _ _ none) (by simp)
  have z1 : ((w.alloc (.cells cs 56)).alloc (.cells metaZ 56)).heap.size = w.heap.size + 2 := by simp
  unfold metaZ at o0 o1 b1 z1
  generalize (w.alloc (.cells cs 56)).alloc _ = w1 at *
  have bd : w.grownBy w1.drew none := ⟨b1.os, b1.tape, b1.output, b1.size, b1.block⟩
  have rb : RB (w.heap.size + 1) w.heap.size cs w1.drew := ⟨o1, o0, by omega⟩
  have zd : w1.drew.heap.size = w.heap.size + 2 := z1
  have RB0 := Lib.hid rb
  have GR0 := Lib.hid bd
  have Z0 := Lib.hid zd
  clear o1 b1 z1 rb bd zd
  refine Late.begin_ (S := fun w' => w'.heap[w.heap.size]? = some (.cells cs 56 (0, 0))) [12, 13, 14, 15, 16, 17, 18, 19] 20 rfl (by kernel_rfl) o0 ?_
  intro hS
  have SX := Lib.hid hS
  clear hS o0
  generalize w1.drew = wa at *
  refine Late.t_field (i := 0) rfl rfl (by kernel_rfl) (by kernel_rfl) (by kernel_rfl) (fun _ => SX.out) (.inr (by kernel_rfl)) _ _ _ rfl w.heap.size 0 rfl Tryd.underlying56 rfl (sz := 1) (by kernel_rfl) (by decide) 11 rfl ?_
  simp only [Act.put, List.setIfInBounds_toArray, List.set_cons_zero, List.set_cons_succ]
  refine Late.t_load1 (i := 1) rfl rfl (by kernel_rfl) (by kernel_rfl) (by kernel_rfl) (by decide) (by kernel_rfl) SX.out _ _ rfl w.heap.size 11 rfl (.slice p.qs m.slots.length p.ks) (fun w' hw' => (cell_of_row _ _ 11 _ _ _ hw').trans x11) Tryd.underlying47 rfl ?_
  simp only [Act.put, List.setIfInBounds_toArray, List.set_cons_zero, List.set_cons_succ]
  refine Late.t_field (i := 3) rfl rfl (by kernel_rfl) (by kernel_rfl) (by kernel_rfl) (fun _ => SX.out) (.inr (by kernel_rfl)) _ _ _ rfl w.heap.size 0 rfl Tryd.underlying56 rfl (sz := 1) (by kernel_rfl) (by decide) 12 rfl ?_
  simp only [Act.put, List.setIfInBounds_toArray, List.set_cons_zero, List.set_cons_succ]
  refine Late.t_load1 (i := 4) rfl rfl (by kernel_rfl) (by kernel_rfl) (by kernel_rfl) (by decide) (by kernel_rfl) SX.out _ _ rfl w.heap.size 12 rfl (.slice p.qe m.epochs.length p.ke) (fun w' hw' => (cell_of_row _ _ 12 _ _ _ hw').trans x12) Tryd.underlying48 rfl ?_
  simp only [Act.put, List.setIfInBounds_toArray, List.set_cons_zero, List.set_cons_succ]
  refine Late.t_field (i := 6) rfl rfl (by kernel_rfl) (by kernel_rfl) (by kernel_rfl) (fun _ => SX.out) (.inr (by kernel_rfl)) _ _ _ rfl w.heap.size 0 rfl Tryd.underlying56 rfl (sz := 1) (by kernel_rfl) (by decide) 13 rfl ?_
  simp only [Act.put, List.setIfInBounds_toArray, List.set_cons_zero, List.set_cons_succ]
  refine Late.t_load1 (i := 7) rfl rfl (by kernel_rfl) (by kernel_rfl) (by kernel_rfl) (by decide) (by kernel_rfl) SX.out _ _ rfl w.heap.size 13 rfl (.slice p.qg m.segs.length p.kg) (fun w' hw' => (cell_of_row _ _ 13 _ _ _ hw').trans x13) Tryd.underlying49 rfl ?_
  simp only [Act.put, List.setIfInBounds_toArray, List.set_cons_zero, List.set_cons_succ]
  refine Late.t_field (i := 9) rfl rfl (by kernel_rfl) (by kernel_rfl) (by kernel_rfl) (fun _ => SX.out) (.inr (by kernel_rfl)) _ _ _ rfl w.heap.size 0 rfl Tryd.underlying56 rfl (sz := 1) (by kernel_rfl) (by decide) 26 rfl ?_
  simp only [Act.put, List.setIfInBounds_toArray, List.set_cons_zero, List.set_cons_succ]
  refine Late.t_load1 (i := 10) rfl rfl (by kernel_rfl) (by kernel_rfl) (by kernel_rfl) (by decide) (by kernel_rfl) SX.out _ _ rfl w.heap.size 26 rfl (.slice p.qt m.toks.length p.kt) (fun w' hw' => (cell_of_row _ _ 26 _ _ _ hw').trans x26) Tryd.underlying54 rfl ?_
  simp only [Act.put, List.setIfInBounds_toArray, List.set_cons_zero, List.set_cons_succ]
  have gm := MIn.gb HM.out GR0.out
  refine Late.t_one (i := 2) rfl rfl (by kernel_rfl) (Step.w_callx 86 [.tmp 5] _ rfl Tryd.func86 (by kernel_rfl) rfl [.slice p.qs m.slots.length p.ks] rfl
    (again_slots p.qs m.slots.length p.ks (m.slots.flatMap slotC) wa (flat_len (sz := 9) (fun _ => rfl) _) HM.out.s.nil gm.s.lv (sl_one' _) (Nat.le_trans HM.out.s.le HM.out.s.max) (by have := (reach_le HM.out.s.reach (by decide) (by decide)).2.1; omega)) ?_)
  rintro e wb ⟨q_slots, k_slots, rfl, M_slots, g0⟩
  refine ⟨_, rfl, ?_⟩
  simp only [Act.put, List.setIfInBounds_toArray, List.set_cons_zero, List.set_cons_succ]
  have GR1 := Lib.hid (Tree.grown_trans GR0.out g0 (by simp))
  have RB1 := Lib.hid (RB0.out.step g0 .none)
  replace M_slots := own_mono M_slots (b' := w.heap.size + 2) (by have := g0.size; have := Z0.out; omega)
  have SZ := Lib.hid (show w.heap.size + 2 ≤ wb.heap.size by have := g0.size; have := Z0.out; omega)
  clear g0 gm
  refine ⟨fun _ => RB1.out.n, ?_⟩
  refine Late.t_field (i := 12) rfl rfl (by kernel_rfl) (by kernel_rfl) (by kernel_rfl) (fun h => absurd (by decide) h) (.inl (by decide)) _ _ _ rfl w.heap.size 0 rfl Tryd.underlying56 rfl (sz := 1) (by kernel_rfl) (by decide) 11 rfl ?_
  simp only [Act.put, List.setIfInBounds_toArray, List.set_cons_zero, List.set_cons_succ]
  have gm := MIn.gb HM.out GR1.out
  refine Late.t_one (i := 5) rfl rfl (by kernel_rfl) (Step.w_callx 87 [.tmp 8] _ rfl Tryd.func87 (by kernel_rfl) rfl [.slice p.qe m.epochs.length p.ke] rfl
    (again_epochs p.qe m.epochs.length p.ke (m.epochs.flatMap epochC) wb (flat_len (sz := 5) (fun _ => rfl) _) HM.out.e.nil gm.e.lv (ep_one' _) (Nat.le_trans HM.out.e.le HM.out.e.max) (by have := (reach_le HM.out.e.reach (by decide) (by decide)).2.1; omega)) ?_)
  rintro e wc ⟨q_epochs, k_epochs, rfl, M_epochs, g1⟩
  refine ⟨_, rfl, ?_⟩
  simp only [Act.put, List.setIfInBounds_toArray, List.set_cons_zero, List.set_cons_succ]
  have GR2 := Lib.hid (Tree.grown_trans GR1.out g1 (by simp))
  have RB2 := Lib.hid (RB1.out.step g1 .none)
  replace M_epochs := own_mono M_epochs (b' := w.heap.size + 2) (by have := g1.size; have := Z0.out; have := SZ.out; omega)
  replace M_slots := own_off M_slots g1 .none
  have SZ := Lib.hid (show w.heap.size + 2 ≤ wc.heap.size by have := g1.size; have := Z0.out; have := SZ.out; omega)
  clear g1 gm
  refine ⟨fun _ => RB2.out.n, ?_⟩
  have gm := MIn.gb HM.out GR2.out
  refine Late.t_one (i := 8) rfl rfl (by kernel_rfl) (Step.w_callx 88 [.tmp 11] _ rfl Tryd.func88 (by kernel_rfl) rfl [.slice p.qg m.segs.length p.kg] rfl
    (again_segs p.qg m.segs.length p.kg (m.segs.flatMap sgC) wc (flat_len (sz := 3) (fun _ => rfl) _) HM.out.g.nil gm.g.lv (sg_one' _) (Nat.le_trans HM.out.g.le HM.out.g.max) (by have := (reach_le HM.out.g.reach (by decide) (by decide)).2.1; omega)) ?_)
  rintro e wd ⟨q_segs, k_segs, rfl, M_segs, g2⟩
  refine ⟨_, rfl, ?_⟩
  simp only [Act.put, List.setIfInBounds_toArray, List.set_cons_zero, List.set_cons_succ]
  have GR3 := Lib.hid (Tree.grown_trans GR2.out g2 (by simp))
  have RB3 := Lib.hid (RB2.out.step g2 .none)
  replace M_segs := own_mono M_segs (b' := w.heap.size + 2) (by have := g2.size; have := Z0.out; have := SZ.out; omega)
  replace M_slots := own_off M_slots g2 .none
  replace M_epochs := own_off M_epochs g2 .none
  have SZ := Lib.hid (show w.heap.size + 2 ≤ wd.heap.size by have := g2.size; have := Z0.out; have := SZ.out; omega)
  clear g2 gm
  refine ⟨fun _ => RB3.out.n, ?_⟩
  have gm := MIn.gb HM.out GR3.out
  refine Late.t_one (i := 11) rfl rfl (by kernel_rfl) (Step.w_callx 89 [.tmp 14] _ rfl Tryd.func89 (by kernel_rfl) rfl [.slice p.qt m.toks.length p.kt] rfl
    (again_toks p.qt m.toks.length p.kt (m.toks.flatMap tokC) wd (flat_len (sz := 4) (fun _ => rfl) _) HM.out.t.nil gm.t.lv (tk_one' _) (Nat.le_trans HM.out.t.le HM.out.t.max) (by have := (reach_le HM.out.t.reach (by decide) (by decide)).2.1; omega)) ?_)
  rintro e we ⟨q_toks, k_toks, rfl, M_toks, g3⟩
  refine ⟨_, rfl, ?_⟩
  simp only [Act.put, List.setIfInBounds_toArray, List.set_cons_zero, List.set_cons_succ]
  have GR4 := Lib.hid (Tree.grown_trans GR3.out g3 (by simp))
  have RB4 := Lib.hid (RB3.out.step g3 .none)
  replace M_toks := own_mono M_toks (b' := w.heap.size + 2) (by have := g3.size; have := Z0.out; have := SZ.out; omega)
  replace M_slots := own_off M_slots g3 .none
  replace M_epochs := own_off M_epochs g3 .none
  replace M_segs := own_off M_segs g3 .none
  have SZ := Lib.hid (show w.heap.size + 2 ≤ we.heap.size by have := g3.size; have := Z0.out; have := SZ.out; omega)
  clear g3 gm
  refine ⟨fun _ => RB4.out.n, ?_⟩
  have rb := RB4.out
  have gr := GR4.out
  refine Late.t_one (i := 13) rfl rfl (by kernel_rfl) (Tree.w_store1 47 _ _ rfl w.heap.size 11 rfl q_slots m.slots.length k_slots rfl (by kernel_rfl) rb.n (by simp [hs27]) ?_)
  refine ⟨fun h => absurd (by decide) h, ?_⟩
  simp only [Act.put]
  have gc : we.grownBy (we.setCell ⟨w.heap.size, 11, none⟩ (.slice q_slots m.slots.length k_slots)) (some w.heap.size) := Tree.grown_setCell (Tree.grown_refl we) _ _
  replace M_slots := own_off M_slots gc (fun b hb => .inl (by cases hb; omega))
  replace M_epochs := own_off M_epochs gc (fun b hb => .inl (by cases hb; omega))
  replace M_segs := own_off M_segs gc (fun b hb => .inl (by cases hb; omega))
  replace M_toks := own_off M_toks gc (fun b hb => .inl (by cases hb; omega))
  replace rb := rb.set 11 (.slice q_slots m.slots.length k_slots)
  replace gr := Tree.grown_trans gr gc (fun b hb => by cases hb; exact Nat.le_refl _)
  have SZ := Lib.hid (Nat.le_trans SZ.out gc.size)
  clear gc
  generalize we.setCell ⟨w.heap.size, 11, none⟩ (.slice q_slots m.slots.length k_slots) = w2 at *
  refine Late.t_field (i := 14) rfl rfl (by kernel_rfl) (by kernel_rfl) (by kernel_rfl) (fun h => absurd (by decide) h) (.inl (by decide)) _ _ _ rfl w.heap.size 0 rfl Tryd.underlying56 rfl (sz := 1) (by kernel_rfl) (by decide) 12 rfl ?_
  simp only [Act.put, List.setIfInBounds_toArray, List.set_cons_zero, List.set_cons_succ]
  refine Late.t_one (i := 15) rfl rfl (by kernel_rfl) (Tree.w_store1 48 _ _ rfl w.heap.size 12 rfl q_epochs m.epochs.length k_epochs rfl (by kernel_rfl) rb.n (by simp [hs27]) ?_)
  refine ⟨fun h => absurd (by decide) h, ?_⟩
  simp only [Act.put]
  have gc : w2.grownBy (w2.setCell ⟨w.heap.size, 12, none⟩ (.slice q_epochs m.epochs.length k_epochs)) (some w.heap.size) := Tree.grown_setCell (Tree.grown_refl w2) _ _
  replace M_slots := own_off M_slots gc (fun b hb => .inl (by cases hb; omega))
  replace M_epochs := own_off M_epochs gc (fun b hb => .inl (by cases hb; omega))
  replace M_segs := own_off M_segs gc (fun b hb => .inl (by cases hb; omega))
  replace M_toks := own_off M_toks gc (fun b hb => .inl (by cases hb; omega))
  replace rb := rb.set 12 (.slice q_epochs m.epochs.length k_epochs)
  replace gr := Tree.grown_trans gr gc (fun b hb => by cases hb; exact Nat.le_refl _)
  have SZ := Lib.hid (Nat.le_trans SZ.out gc.size)
  clear gc
  generalize w2.setCell ⟨w.heap.size, 12, none⟩ (.slice q_epochs m.epochs.length k_epochs) = w3 at *
  refine Late.t_field (i := 16) rfl rfl (by kernel_rfl) (by kernel_rfl) (by kernel_rfl) (fun h => absurd (by decide) h) (.inl (by decide)) _ _ _ rfl w.heap.size 0 rfl Tryd.underlying56 rfl (sz := 1) (by kernel_rfl) (by decide) 13 rfl ?_
  simp only [Act.put, List.setIfInBounds_toArray, List.set_cons_zero, List.set_cons_succ]
  refine Late.t_one (i := 17) rfl rfl (by kernel_rfl) (Tree.w_store1 49 _ _ rfl w.heap.size 13 rfl q_segs m.segs.length k_segs rfl (by kernel_rfl) rb.n (by simp [hs27]) ?_)
  refine ⟨fun h => absurd (by decide) h, ?_⟩
  simp only [Act.put]
  have gc : w3.grownBy (w3.setCell ⟨w.heap.size, 13, none⟩ (.slice q_segs m.segs.length k_segs)) (some w.heap.size) := Tree.grown_setCell (Tree.grown_refl w3) _ _
  replace M_slots := own_off M_slots gc (fun b hb => .inl (by cases hb; omega))
  replace M_epochs := own_off M_epochs gc (fun b hb => .inl (by cases hb; omega))
  replace M_segs := own_off M_segs gc (fun b hb => .inl (by cases hb; omega))
  replace M_toks := own_off M_toks gc (fun b hb => .inl (by cases hb; omega))
  replace rb := rb.set 13 (.slice q_segs m.segs.length k_segs)
  replace gr := Tree.grown_trans gr gc (fun b hb => by cases hb; exact Nat.le_refl _)
  have SZ := Lib.hid (Nat.le_trans SZ.out gc.size)
  clear gc
  generalize w3.setCell ⟨w.heap.size, 13, none⟩ (.slice q_segs m.segs.length k_segs) = w4 at *
  refine Late.t_field (i := 18) rfl rfl (by kernel_rfl) (by kernel_rfl) (by kernel_rfl) (fun h => absurd (by decide) h) (.inl (by decide)) _ _ _ rfl w.heap.size 0 rfl Tryd.underlying56 rfl (sz := 1) (by kernel_rfl) (by decide) 26 rfl ?_
  simp only [Act.put, List.setIfInBounds_toArray, List.set_cons_zero, List.set_cons_succ]
  refine Late.t_one (i := 19) rfl rfl (by kernel_rfl) (Tree.w_store1 54 _ _ rfl w.heap.size 26 rfl q_toks m.toks.length k_toks rfl (by kernel_rfl) rb.n (by simp [hs27]) ?_)
  refine ⟨fun h => absurd (by decide) h, ?_⟩
  simp only [Act.put]
  have gc : w4.grownBy (w4.setCell ⟨w.heap.size, 26, none⟩ (.slice q_toks m.toks.length k_toks)) (some w.heap.size) := Tree.grown_setCell (Tree.grown_refl w4) _ _
  replace M_slots := own_off M_slots gc (fun b hb => .inl (by cases hb; omega))
  replace M_epochs := own_off M_epochs gc (fun b hb => .inl (by cases hb; omega))
  replace M_segs := own_off M_segs gc (fun b hb => .inl (by cases hb; omega))
  replace M_toks := own_off M_toks gc (fun b hb => .inl (by cases hb; omega))
  replace rb := rb.set 26 (.slice q_toks m.toks.length k_toks)
  replace gr := Tree.grown_trans gr gc (fun b hb => by cases hb; exact Nat.le_refl _)
  have SZ := Lib.hid (Nat.le_trans SZ.out gc.size)
  clear gc
  generalize w4.setCell ⟨w.heap.size, 26, none⟩ (.slice q_toks m.toks.length k_toks) = w5 at *
  refine Late.t_end (by kernel_rfl) ?_ _
  obtain ⟨cn, hcn⟩ : ∃ cn : Array Value, (((cs.setIfInBounds 11 (.slice q_slots m.slots.length k_slots)).setIfInBounds 12 (.slice q_epochs m.epochs.length k_epochs)).setIfInBounds 13 (.slice q_segs m.segs.length k_segs)).setIfInBounds 26 (.slice q_toks m.toks.length k_toks) = cn := ⟨_, rfl⟩
  have y26 : cn[26]? = some (.slice q_toks m.toks.length k_toks) := by rw [← hcn]; simp [hs27]
  rw [hcn] at rb
  have HCN := Lib.hid hcn
  have D0 : Hid (DW (w.heap.size + 2) w m (.slice q_slots m.slots.length k_slots) (.slice q_epochs m.epochs.length k_epochs) (.slice q_segs m.segs.length k_segs) (.slice q_toks m.toks.length k_toks) 0 m.toks w5) := Lib.hid ⟨gr, SZ.out, M_slots, M_epochs, M_segs, rfl, M_toks, fun i _ _ h => by omega, fun i _ => rfl, fun i j _ _ _ h => by omega⟩
  have RB5 := Lib.hid rb
  clear hcn gr M_slots M_epochs M_segs M_toks rb SX SZ GR0 GR1 GR2 GR3 GR4 RB0 RB1 RB2 RB3 RB4 Z0
  have hlen : m.toks.length ≤ 9223372036854775807 := Nat.le_trans HM.out.t.le (by have := HM.out.t.max; unfold maxLen at this; omega)
  go_upto_region 2 with fail
  refine wp_region_lit ?_
  refine Tree.p_field rfl _ _ _ rfl w.heap.size 0 rfl Tryd.underlying56 rfl (sz := 1) (by kernel_rfl) (by decide) 26 rfl ?_
  simp only [Act.put, List.setIfInBounds_toArray, List.set_cons_zero, List.set_cons_succ]
  refine Tree.p_load1 rfl _ _ rfl w.heap.size 26 rfl (.slice q_toks m.toks.length k_toks) ((cell_of_row _ _ 26 _ _ _ RB5.out.n).trans y26) Tryd.underlying54 rfl ?_
  simp only [Act.put, List.setIfInBounds_toArray, List.set_cons_zero, List.set_cons_succ]
  refine Step.p_len rfl _ _ 41 rfl q_toks m.toks.length k_toks rfl Tryd.underlying54 ?_
  simp only [Act.put, List.setIfInBounds_toArray, List.set_cons_zero, List.set_cons_succ]
  refine Step.p_move rfl _ rfl (.int .i64 0) rfl ?_
  refine wpList_nil ?_
  simp only [Act.put, List.setIfInBounds_toArray, List.set_cons_zero, List.set_cons_succ]
  go_wp2
  go_loopw [23] (fun i wr => ∃ (k : Nat) (T : List TokD), k ≤ m.toks.length ∧ i = .int .i64 k ∧ DW (w.heap.size + 2) w m (.slice q_slots m.slots.length k_slots) (.slice q_epochs m.epochs.length k_epochs) (.slice q_segs m.segs.length k_segs) (.slice q_toks m.toks.length k_toks) k T wr ∧ RB (w.heap.size + 1) w.heap.size cn wr) (fun i _ => m.toks.length - (intOf i).toNat)
  case atStart => exact ⟨0, m.toks, by omega, rfl, D0.out, RB5.out⟩
  case round =>
    obtain ⟨k, T, hk, rfl, hdw, hrb⟩ := hrel
    have HR := Lib.hid hdw
    have HB := Lib.hid hrb
    clear hdw hrb
    by_cases hlt : k < m.toks.length
    · have hkT : k < T.length := by rw [HR.out.len]; exact hlt
      have hTk : T[k]'hkT = m.toks[k]'hlt := by
        have := HR.out.old k (Nat.le_refl _)
        rw [List.getElem?_eq_getElem hkT, List.getElem?_eq_getElem hlt] at this
        exact Option.some.inj this
      obtain ⟨gt, hqt⟩ : ∃ gt, q_toks = some ⟨gt, 0, none⟩ := by
        rcases HR.out.t.2 with ⟨_, h0⟩ | ⟨g, cap, cur, hv, _⟩
        · omega
        · simp only [Value.slice.injEq] at hv
          exact ⟨g, hv.1⟩
      subst hqt
      obtain ⟨k1, k2, k3, k4, k5⟩ := HM.out.tok _ (List.getElem_mem hlt)
      have hcell : wr.cell? ⟨gt, k * 4 + 2, none⟩ = some (.slice (m.toks[k]'hlt).q (m.toks[k]'hlt).n (m.toks[k]'hlt).cap) := by
        have hfl : (T.flatMap tokC).length = T.length * 4 := flat_len (sz := 4) (fun _ => rfl) T
        have hl := HR.out.len
        rw [HR.out.t.cellAt (k * 4 + 2) (by omega), flat_get (sz := 4) (fun _ => rfl) T k 2 hkT (by decide), hTk]
        rfl
      have gtB := Step.own_lt HR.out.t (g := gt) rfl
      have HCELL := Lib.hid hcell
      clear hcell hTk
      go_upto_region 5 with fail
      refine Step.begin_ (S := fun w' => w'.heap[w.heap.size]? = some (.cells cn 56 (0, 0))) 13 rfl (by kernel_rfl) HB.out.n ?_
      intro hS
      have SX := Lib.hid hS
      clear hS
      refine Tree.t_field (i := 0) rfl rfl (by kernel_rfl) (by kernel_rfl) (by kernel_rfl) SX.out _ _ _ rfl w.heap.size 0 rfl Tryd.underlying56 rfl (sz := 1) (by kernel_rfl) (by decide) 26 rfl ?_
      simp only [Act.put, List.setIfInBounds_toArray, List.set_cons_zero, List.set_cons_succ]
      refine Tree.t_load1 (i := 1) rfl rfl (by kernel_rfl) (by kernel_rfl) (by kernel_rfl) SX.out _ _ rfl w.heap.size 26 rfl (.slice (some ⟨gt, 0, none⟩) m.toks.length k_toks) (fun w' hw' => (cell_of_row _ _ 26 _ _ _ hw').trans y26) Tryd.underlying54 rfl ?_
      simp only [Act.put, List.setIfInBounds_toArray, List.set_cons_zero, List.set_cons_succ]
      refine Step.t_move (i := 2) rfl rfl (by kernel_rfl) (by kernel_rfl) (by kernel_rfl) SX.out _ rfl (.int .i64 k) rfl ?_
      simp only [Act.put, List.setIfInBounds_toArray, List.set_cons_zero, List.set_cons_succ]
      refine Tree.t_field (i := 3) rfl rfl (by kernel_rfl) (by kernel_rfl) (by kernel_rfl) SX.out _ _ _ rfl w.heap.size 0 rfl Tryd.underlying56 rfl (sz := 1) (by kernel_rfl) (by decide) 26 rfl ?_
      simp only [Act.put, List.setIfInBounds_toArray, List.set_cons_zero, List.set_cons_succ]
      refine Tree.t_load1 (i := 4) rfl rfl (by kernel_rfl) (by kernel_rfl) (by kernel_rfl) SX.out _ _ rfl w.heap.size 26 rfl (.slice (some ⟨gt, 0, none⟩) m.toks.length k_toks) (fun w' hw' => (cell_of_row _ _ 26 _ _ _ hw').trans y26) Tryd.underlying54 rfl ?_
      simp only [Act.put, List.setIfInBounds_toArray, List.set_cons_zero, List.set_cons_succ]
      refine Step.t_move (i := 5) rfl rfl (by kernel_rfl) (by kernel_rfl) (by kernel_rfl) SX.out _ rfl (.int .i64 k) rfl ?_
      simp only [Act.put, List.setIfInBounds_toArray, List.set_cons_zero, List.set_cons_succ]
      refine Step.t_index (i := 6) rfl rfl (by kernel_rfl) (by kernel_rfl) (by kernel_rfl) SX.out _ 41 _ _ rfl gt 0 m.toks.length k_toks rfl k rfl hlt 4 Tryd.underlying54 (by kernel_rfl) ?_
      simp only [Act.put, List.setIfInBounds_toArray, List.set_cons_zero, List.set_cons_succ]
      refine Tree.t_field (i := 7) rfl rfl (by kernel_rfl) (by kernel_rfl) (by kernel_rfl) SX.out _ _ _ rfl gt (0 + k * 4) rfl Tryd.underlying41 rfl (sz := 1) (by kernel_rfl) (by decide) (k * 4 + 2) (by show 0 + k * 4 + 2 = _; omega) ?_
      simp only [Act.put, List.setIfInBounds_toArray, List.set_cons_zero, List.set_cons_succ]
      refine Step.t_one (i := 8) rfl rfl (by kernel_rfl) (w_load1 _ _ rfl gt (k * 4 + 2) rfl (.slice (m.toks[k]'hlt).q (m.toks[k]'hlt).n (m.toks[k]'hlt).cap) HCELL.out Tryd.underlying39 rfl ?_)
      refine ⟨SX.out, ?_⟩
      simp only [Act.put, List.setIfInBounds_toArray, List.set_cons_zero, List.set_cons_succ]
      refine Step.t_one (i := 9) rfl rfl (by kernel_rfl) ?_
      have hil : Tok.IL wr.drew (m.toks[k]'hlt).q (m.toks[k]'hlt).n (m.toks[k]'hlt).f := (k4.below (below_of_gb HR.out.gr)).below (Below.refl _ _).drew
      refine Step.w_callx 90 [.tmp 34] _ rfl Tryd.func90 (by kernel_rfl) rfl [.slice (m.toks[k]'hlt).q (m.toks[k]'hlt).n (m.toks[k]'hlt).cap] rfl
        (again_ints (m.toks[k]'hlt).q (m.toks[k]'hlt).n (m.toks[k]'hlt).cap (intC (m.toks[k]'hlt).f (m.toks[k]'hlt).n) wr.drew (by simp [intC]) k3 (fun j u hj => int_src hil j u hj) (int_one _ _) (by unfold maxLen at k2 ⊢; omega) (by omega)) ?_
      rintro e w9 ⟨gi, ci, rfl, hown, gw9⟩
      refine ⟨_, rfl, ?_⟩
      simp only [Act.put, List.setIfInBounds_toArray, List.set_cons_zero, List.set_cons_succ]
      have HR9 := Lib.hid (HR.out.step (w' := w9) (ob := none) ⟨gw9.os, gw9.tape, gw9.output, gw9.size, gw9.block⟩ (by simp))
      have HB9 : Hid (RB (w.heap.size + 1) w.heap.size cn w9) := Lib.hid (RB.step (w := wr.drew) ⟨HB.out.res, HB.out.n, HB.out.ne⟩ gw9 .none)
      have HNE : Hid (∀ x, (Value.slice gi (m.toks[k]'hlt).n ci).ownBlock = some x → ∀ i (hi : i < T.length), i < k → tokB (T[i]'hi) ≠ some x) := Lib.hid fun x hx i hi hik hy => by
        have h1 := Step.own_lt hown hx
        have hc := HR.out.tok i (by omega) hi hik
        have h2 := Step.own_lt hc.own (g := x) (by rw [← hc.n]; exact hy)
        have h3 : wr.heap.size ≤ x := h1.1
        omega
      have HOW := Lib.hid (own_mono hown (b' := w.heap.size + 2) HR.out.sz)
      refine ⟨HB9.out.n, ?_⟩
      clear gw9 hown k1 k2 k3 k4 k5 hil HR HB HCELL
      refine Step.t_index (i := 10) rfl rfl (by kernel_rfl) (by kernel_rfl) (by kernel_rfl) HB9.out.n _ 41 _ _ rfl gt 0 m.toks.length k_toks rfl k rfl hlt 4 Tryd.underlying54 (by kernel_rfl) ?_
      simp only [Act.put, List.setIfInBounds_toArray, List.set_cons_zero, List.set_cons_succ]
      refine Tree.t_field (i := 11) rfl rfl (by kernel_rfl) (by kernel_rfl) (by kernel_rfl) HB9.out.n _ _ _ rfl gt (0 + k * 4) rfl Tryd.underlying41 rfl (sz := 1) (by kernel_rfl) (by decide) (k * 4 + 2) (by show 0 + k * 4 + 2 = _; omega) ?_
      simp only [Act.put, List.setIfInBounds_toArray, List.set_cons_zero, List.set_cons_succ]
      obtain ⟨cur, hcur, hcl⟩ : ∃ cur, w9.heap[gt]? = some (.cells cur 41 (0, 0)) ∧ k * 4 + 2 < cur.size := by
        rcases HR9.out.t.2 with ⟨h, h0⟩ | ⟨g, cap, cur, hv, _, hg, hnc, _, hcs, _⟩
        · simp at h
        · simp only [Value.slice.injEq, Option.some.injEq, Addr.mk.injEq, and_true, true_and] at hv
          obtain ⟨rfl, rfl⟩ := hv
          refine ⟨cur, hg, ?_⟩
          rw [hcs]
          omega
      refine Step.t_one (i := 12) rfl rfl (by kernel_rfl) (Tree.w_store1 39 _ _ rfl gt (k * 4 + 2) rfl gi (m.toks[k]'hlt).n ci rfl (by kernel_rfl) hcur hcl ?_)
      have rws := HR9.out.store (by omega) hlt HOW.out HNE.out
      have gst : w9.grownBy (w9.setCell ⟨gt, k * 4 + 2, none⟩ (.slice gi (m.toks[k]'hlt).n ci)) (some gt) := Tree.grown_setCell (Tree.grown_refl w9) _ _
      have rbs := HB9.out.step gst (own_offM HR9.out.t (by decide))
      refine ⟨rbs.n, ?_⟩
      refine Step.t_end (by kernel_rfl) ?_
      simp only [Act.put]
      have RWS := Lib.hid rws
      have RBS := Lib.hid rbs
      clear rws rbs gst hcur hcl
      go_wp2
      go_roundw
      case rel => exact ⟨k + 1, _, by omega, rfl, RWS.out, RBS.out⟩
      case measure => simp [intOf]; omega
    · obtain rfl : k = m.toks.length := by omega
      have hl : T.length = m.toks.length := HR.out.len
      have hcfe : cn = metaA { m with toks := T } ⟨q_slots, k_slots, q_epochs, k_epochs, q_segs, k_segs, q_toks, k_toks⟩ := by
        rw [← HCN.out, ← HCS.out]
        simp only [metaA, hl]
        rfl
      have hf1 : cn.all (·.oneCell') = true := by rw [hcfe, ← Array.all_toList]; rfl
      have hf27 : cn.size = 27 := by rw [hcfe]; rfl
      have HMV := Lib.hid (show metaV { m with toks := T } ⟨q_slots, k_slots, q_epochs, k_epochs, q_segs, k_segs, q_toks, k_toks⟩ = .agg cn by rw [metaV_eq, hcfe])
      clear hcfe
      have hn := HB.out.n
      have hr := HB.out.res
      go_upto_region 7 with fail
      refine wp_region_lit ?_
      refine Tree.p_loadrow rfl _ _ rfl w.heap.size rfl hn Tryd.underlying56 rfl (by rw [hf27]; exact hi27) ?_
      simp only [Act.put, List.setIfInBounds_toArray, List.set_cons_zero, List.set_cons_succ]
      refine wpList_store_row rfl _ _ _ rfl (w.heap.size + 1) cn rfl rfl 56 metaZ hr (by rw [hf27]; exact hi27) (by rw [hf27]; rfl) hf1 ?_
      refine wpList_nil ?_
      simp only [Act.put]
      have hr4 := setRow_heap wr (w.heap.size + 1) metaZ cn _ _ hr
      have g4 : wr.grownBy (wr.setRow (w.heap.size + 1) cn) (some (w.heap.size + 1)) := ⟨rfl, rfl, rfl, by simp, fun k hk hne => setRow_other _ _ _ _ (fun e => hne (by rw [e]))⟩
      have C4 := Lib.hid (HR.out.step g4 (fun b hb => by cases hb; omega))
      clear hn hr g4
      generalize wr.setRow (w.heap.size + 1) cn = w4' at *
      go_wp2
      refine bodyPost_ret (v := .agg cn) (results_cell_row rfl _ _ (w.heap.size + 1) _ cn _ _ rfl hr4 Tryd.underlying56 rfl (by rw [hf27]; exact hi27)) rfl ?_
      exact ⟨T, q_slots, k_slots, q_epochs, k_epochs, q_segs, k_segs, q_toks, k_toks, by rw [HMV.out], cw_mono ⟨C4.out.gr, C4.out.sz, C4.out.s, C4.out.e, C4.out.g, C4.out.len, C4.out.t, fun i h1 h2 => C4.out.tok i h1 h2 h1⟩ (by omega), by rw [hl]; exact C4.out.dist⟩
end Go.Proofs.YtfchbodbkdkcfaaDoor.Meta
