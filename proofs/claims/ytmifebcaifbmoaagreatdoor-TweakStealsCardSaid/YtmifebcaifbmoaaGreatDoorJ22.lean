import Derived.Test.YtmifebcaifbmoaaGreatDoorJ21
import Derived.Test.YtmifebcaifbmoaaGreatDoorJ15
/- Builds -/
section
namespace Go.Proofs.YtmifebcaifbmoaaGreatDoor.G
open Go.RowKit Go.Lib Go.Proofs.YtmifebcaifbmoaaGreatDoor.Blk Go.Proofs.YtmifebcaifbmoaaGreatDoor.Aes Go.Proofs.YtmifebcaifbmoaaGreatDoor.Rj Go.Proofs.YtmifebcaifbmoaaGreatDoor.Poly Go.Proofs.YtmifebcaifbmoaaGreatDoor.Field Go.Proofs.YtmifebcaifbmoaaGreatDoor.Tab Go.Proofs.YtmifebcaifbmoaaGreatDoor.Tw Go.Proofs.YtmifebcaifbmoaaGreatDoor.RS
/-- a cipher's block under way, and the box of its pointer -/
structure BZ (cb x : Nat) (C : Array Value) (w w' : World) : Prop where
  hc : w'.heap[cb]? = some (.cells C 80 (0, 0))
  bx : w'.cell? ⟨x, 0, none⟩ = some (.pointer (some ⟨cb, 0, none⟩))
  gb : w.grownBy w' (some cb)
  ne : x ≠ cb
theorem BZ.put {cb x : Nat} {C C2 : Array Value} {w w1 w2 : World} (h : BZ cb x C w w1) (hr : w2.heap[cb]? = some (.cells C2 80 (0, 0))) (hg : w1.grownBy w2 (some cb)) : BZ cb x C2 w w2 := ⟨hr, cell_gb hg h.ne h.bx, gb_trans h.gb hg, h.ne⟩
theorem BZ.start {cb : Nat} {C : Array Value} {w : World} (h : w.heap[cb]? = some (.cells C 80 (0, 0))) : BZ cb w.heap.size C w (w.alloc (.cells #[.pointer (some ⟨cb, 0, none⟩)] 30)) := by
  have hl := (Array.getElem?_eq_some_iff.1 h).1
  exact ⟨(heap_alloc_old _ _ hl).trans h, by rw [cell_of_row _ _ _ _ _ _ (heap_alloc_new w _)]; rfl, World.grownBy_alloc w _ (some cb), by omega⟩
set_option maxRecDepth 100000 in
set_option maxHeartbeats 4000000 in
theorem asXTS_any (cb : Nat) (v0 v1 : Value) (w : World) (hcb : w.heap[cb]? = some (.cells #[v0, v1, .nilFunc, .nilFunc] 80 (0, 0))) :
    Calls Tryz.prog 79 #[.pointer (some ⟨cb, 0, none⟩)] w fun e w' => e = .returned (.tuple #[]) ∧ (∃ x, w'.heap[cb]? = some (.cells #[v0, v1, .func (.func 131) #[] #[.pointer (some ⟨x, 0, none⟩)], .func (.func 134) #[] #[.pointer (some ⟨x, 0, none⟩)]] 80 (0, 0)) ∧ w'.cell? ⟨x, 0, none⟩ = some (.pointer (some ⟨cb, 0, none⟩))) ∧ w.grownBy w' (some cb) := by
  have hmf : ∀ (fn : Fn) (first cap : Array Value) (w : World), (Instr.makeFunc fn first cap).run Tryz.prog w = .ok (.func fn first cap) w := fun _ _ _ _ => by simp [Instr.makeFunc]
  have Z0 := Lib.hid (BZ.start hcb)
  clear hcb
  go_enter Tryz.func79, Tryz.ntmps79
  go_upto_region 1 with fail
  generalize w.alloc (.cells #[.pointer (some ⟨cb, 0, none⟩)] 30) = w1 at *
  generalize w.heap.size = x at *
  refine wp_region_lit ?_
  refine Tree.p_load1 rfl _ _ rfl x 0 rfl (.pointer (some ⟨cb, 0, none⟩)) Z0.out.bx Tryz.underlying30 rfl ?_
  simp only [Act.put, List.setIfInBounds_toArray, List.set_cons_zero, List.set_cons_succ]
  refine Step.p_val rfl (.func (.func 131) #[] #[.pointer (some ⟨x, 0, none⟩)]) (by unfold execOp; simp only [Sem.run_bind, hmf, Result.andThen_ok, Sem.run_pure, List.map_toArray, List.map_cons, List.map_nil]; rfl) ?_
  simp only [Act.put, List.setIfInBounds_toArray, List.set_cons_zero, List.set_cons_succ]
  refine Step.p_val rfl (.pointer (some ⟨cb, 0, none⟩)) (by unfold execOp; go_simp; try rfl) ?_
  simp only [Act.put, List.setIfInBounds_toArray, List.set_cons_zero, List.set_cons_succ]
  refine Tree.p_field rfl _ _ _ rfl (cb) (0) rfl Tryz.underlying80 rfl (sz := 1) (by kernel_rfl) (by decide) (2) rfl ?_
  simp only [Act.put, List.setIfInBounds_toArray, List.set_cons_zero, List.set_cons_succ]
  refine Step.p_storeV rfl 78 _ _ rfl cb 2 rfl (.func (.func 131) #[] #[.pointer (some ⟨x, 0, none⟩)]) rfl (fun _ e => by cases e) rfl (by kernel_rfl) Z0.out.hc (by simp) ?_
  intro w2 hr hg2 _
  have Z3 := Lib.hid (Z0.out.put hr hg2)
  clear hr hg2 Z0
  simp only [Act.put]
  refine wpList_nil ?_
  go_upto_region 2 with fail
  refine wp_region_lit ?_
  refine Tree.p_load1 rfl _ _ rfl x 0 rfl (.pointer (some ⟨cb, 0, none⟩)) Z3.out.bx Tryz.underlying30 rfl ?_
  simp only [Act.put, List.setIfInBounds_toArray, List.set_cons_zero, List.set_cons_succ]
  refine Step.p_val rfl (.func (.func 134) #[] #[.pointer (some ⟨x, 0, none⟩)]) (by unfold execOp; simp only [Sem.run_bind, hmf, Result.andThen_ok, Sem.run_pure, List.map_toArray, List.map_cons, List.map_nil]; rfl) ?_
  simp only [Act.put, List.setIfInBounds_toArray, List.set_cons_zero, List.set_cons_succ]
  refine Step.p_val rfl (.pointer (some ⟨cb, 0, none⟩)) (by unfold execOp; go_simp; try rfl) ?_
  simp only [Act.put, List.setIfInBounds_toArray, List.set_cons_zero, List.set_cons_succ]
  refine Tree.p_field rfl _ _ _ rfl (cb) (0) rfl Tryz.underlying80 rfl (sz := 1) (by kernel_rfl) (by decide) (3) rfl ?_
  simp only [Act.put, List.setIfInBounds_toArray, List.set_cons_zero, List.set_cons_succ]
  refine Step.p_storeV rfl 78 _ _ rfl cb 3 rfl (.func (.func 134) #[] #[.pointer (some ⟨x, 0, none⟩)]) rfl (fun _ e => by cases e) rfl (by kernel_rfl) Z3.out.hc (by simp) ?_
  intro w4 hr hg2 _
  have Z5 := Lib.hid (Z3.out.put hr hg2)
  clear hr hg2 Z3
  simp only [Act.put]
  refine wpList_nil ?_
  go_wp2
  go_end0
  exact ⟨rfl, ⟨x, Z5.out.hc, Z5.out.bx⟩, Z5.out.gb⟩
set_option maxRecDepth 100000 in
set_option maxHeartbeats 4000000 in
theorem xts1_any {k cb xb gk : Nat} {E0 D0 A : Nat → Nat} {fl wh : Nat → Nat} {cs : Array Value} {iv : Nat → Nat → Nat} {sf : FuncId} (hsf : (kindL 0 k)[3]? = some (fv sf)) (x : Nat) (E : Nat → Nat) (s n g cap : Nat) (hs : s < 2 ^ 64) (h16 : 16 ≤ n) (hn : n ≤ 4096) (hnc : n ≤ cap) (hcm : cap ≤ 9223372036854775807)
    (F0 : Nat → Nat) (hF : ∀ i, F0 i < 256) (hiv : iv s n < 2 ^ 128) (hA : A (iv s n) < 2 ^ 128) (w : World) (hM : Md k cb xb gk E0 D0 A true fl wh cs iv w) {v : Value} (hv : cs[2]? = some v) (hD : DoK 106 v E w) (hx : w.cell? ⟨x, 0, none⟩ = some (.pointer (some ⟨cb, 0, none⟩))) (hS : Sec w g n F0) (hg : g ≠ 2) :
    Calls Tryz.prog 131 #[.int .u64 s, .slice (some ⟨g, 0, none⟩) n cap, .pointer (some ⟨x, 0, none⟩)] w fun e w' => e = .returned (.tuple #[]) ∧ Sec w' g n (xtsF E false (A (iv s n)) n F0) ∧ w.grownBy w' (some g) := by
  have KPF := Lib.hid (fun w' (h : w.grownBy w' (some g)) => Kp.of_gb hS (by omega) hg h)
  have CX := Lib.hid (fun w' (h : w.grownBy w' (some g)) => (KPF.out w' h).cell0 hx (fun _ e => by cases e))
  have BT := Lib.hid (fun w' => between_any 106 w')
  have TW := Lib.hid (fun p w' (h : w.grownBy w' (some g)) (hp : w'.cell? ⟨p, 0, none⟩ = some (.func (.func 106) #[] #[])) hS => tweaked_any hsf false 106 ⟨_, Tryz.func106, by kernel_rfl, rfl⟩ E p s n g cap hs h16 hn hnc hcm F0 hF hiv hA w' (hM.kp (KPF.out w' h)) hv (hD.kq (KPF.out w' h).q) hp hS hg)
  have Z0 := Lib.hid (RZ.start hS)
  clear hM hS hD hx hv hsf
  go_enter Tryz.func131, Tryz.ntmps131
  skip
  go_upto_region 0 with fail
  refine Step.begin_ (S := fun w' => RS g [] w w') 5 rfl (by kernel_rfl) Z0.out.drew.rs ?_
  intro hSS
  clear hSS
  have Z1 := Lib.hid Z0.out.drew
  clear Z0
  refine Tree.t_load1 (i := 0) rfl rfl (by kernel_rfl) (by kernel_rfl) (by kernel_rfl) Z1.out.rs _ _ rfl (x) (0) rfl (.pointer (some ⟨cb, 0, none⟩)) (fun w' h => CX.out w' h.gb) Tryz.underlying30 rfl ?_
  simp only [Act.put, List.setIfInBounds_toArray, List.set_cons_zero, List.set_cons_succ]
  refine Step.t_move (i := 1) rfl rfl (by kernel_rfl) (by kernel_rfl) (by kernel_rfl) Z1.out.rs _ rfl (.int .u64 s) rfl ?_
  simp only [Act.put, List.setIfInBounds_toArray, List.set_cons_zero, List.set_cons_succ]
  refine Step.t_move (i := 2) rfl rfl (by kernel_rfl) (by kernel_rfl) (by kernel_rfl) Z1.out.rs _ rfl (.slice (some ⟨g, 0, none⟩) n cap) rfl ?_
  simp only [Act.put, List.setIfInBounds_toArray, List.set_cons_zero, List.set_cons_succ]
  refine Step.t_one (i := 3) rfl rfl (by kernel_rfl) ?_
  refine Step.w_callx 133 _ _ rfl Tryz.func133 (by kernel_rfl) rfl [.func (.func 106) #[] #[]] rfl (BT.out _) ?_
  rintro e w2 ⟨rfl, hc, hb⟩
  have Z3 := Lib.hid (Z1.out.bel hb)
  have PC := Lib.hid hc
  clear hc
  clear hb Z1
  refine ⟨_, rfl, Z3.out.rs, ?_⟩
  simp only [Act.put, List.setIfInBounds_toArray, List.set_cons_zero, List.set_cons_succ]
  refine Step.t_one (i := 4) rfl rfl (by kernel_rfl) ?_
  refine Step.w_callx 132 _ _ rfl Tryz.func132 (by kernel_rfl) rfl [.pointer (some ⟨cb, 0, none⟩), .int .u64 s, .slice (some ⟨g, 0, none⟩) n cap, .func (.func 167) #[] #[.pointer (some ⟨w.drew.heap.size, 0, none⟩)], .bool false] rfl (TW.out w.drew.heap.size _ Z3.out.rs.gb PC.out Z3.out.sec) ?_
  rintro e w4 ⟨rfl, hsec, hgr⟩
  have Z5 := Lib.hid (Z3.out.put hgr (hsec))
  clear hsec hgr Z3
  refine ⟨_, rfl, Z5.out.rs, ?_⟩
  simp only [Act.put, List.setIfInBounds_toArray, List.set_cons_zero, List.set_cons_succ]
  refine Step.t_end (by kernel_rfl) ?_
  go_wp2
  go_end0
  exact ⟨rfl, Z5.out.sec, Z5.out.rs.gb⟩
set_option maxRecDepth 100000 in
set_option maxHeartbeats 4000000 in
theorem xts2_any {k cb xb gk : Nat} {E0 D0 A : Nat → Nat} {fl wh : Nat → Nat} {cs : Array Value} {iv : Nat → Nat → Nat} {sf : FuncId} (hsf : (kindL 0 k)[3]? = some (fv sf)) (x : Nat) (E : Nat → Nat) (s n g cap : Nat) (hs : s < 2 ^ 64) (h16 : 16 ≤ n) (hn : n ≤ 4096) (hnc : n ≤ cap) (hcm : cap ≤ 9223372036854775807)
    (F0 : Nat → Nat) (hF : ∀ i, F0 i < 256) (hiv : iv s n < 2 ^ 128) (hA : A (iv s n) < 2 ^ 128) (w : World) (hM : Md k cb xb gk E0 D0 A true fl wh cs iv w) {v : Value} (hv : cs[2]? = some v) (hD : DoK 109 v E w) (hx : w.cell? ⟨x, 0, none⟩ = some (.pointer (some ⟨cb, 0, none⟩))) (hS : Sec w g n F0) (hg : g ≠ 2) :
    Calls Tryz.prog 134 #[.int .u64 s, .slice (some ⟨g, 0, none⟩) n cap, .pointer (some ⟨x, 0, none⟩)] w fun e w' => e = .returned (.tuple #[]) ∧ Sec w' g n (xtsF E true (A (iv s n)) n F0) ∧ w.grownBy w' (some g) := by
  have KPF := Lib.hid (fun w' (h : w.grownBy w' (some g)) => Kp.of_gb hS (by omega) hg h)
  have CX := Lib.hid (fun w' (h : w.grownBy w' (some g)) => (KPF.out w' h).cell0 hx (fun _ e => by cases e))
  have BT := Lib.hid (fun w' => between_any 109 w')
  have TW := Lib.hid (fun p w' (h : w.grownBy w' (some g)) (hp : w'.cell? ⟨p, 0, none⟩ = some (.func (.func 109) #[] #[])) hS => tweaked_any hsf true 109 ⟨_, Tryz.func109, by kernel_rfl, rfl⟩ E p s n g cap hs h16 hn hnc hcm F0 hF hiv hA w' (hM.kp (KPF.out w' h)) hv (hD.kq (KPF.out w' h).q) hp hS hg)
  have Z0 := Lib.hid (RZ.start hS)
  clear hM hS hD hx hv hsf
  go_enter Tryz.func134, Tryz.ntmps134
  skip
  go_upto_region 0 with fail
  refine Step.begin_ (S := fun w' => RS g [] w w') 5 rfl (by kernel_rfl) Z0.out.drew.rs ?_
  intro hSS
  clear hSS
  have Z1 := Lib.hid Z0.out.drew
  clear Z0
  refine Tree.t_load1 (i := 0) rfl rfl (by kernel_rfl) (by kernel_rfl) (by kernel_rfl) Z1.out.rs _ _ rfl (x) (0) rfl (.pointer (some ⟨cb, 0, none⟩)) (fun w' h => CX.out w' h.gb) Tryz.underlying30 rfl ?_
  simp only [Act.put, List.setIfInBounds_toArray, List.set_cons_zero, List.set_cons_succ]
  refine Step.t_move (i := 1) rfl rfl (by kernel_rfl) (by kernel_rfl) (by kernel_rfl) Z1.out.rs _ rfl (.int .u64 s) rfl ?_
  simp only [Act.put, List.setIfInBounds_toArray, List.set_cons_zero, List.set_cons_succ]
  refine Step.t_move (i := 2) rfl rfl (by kernel_rfl) (by kernel_rfl) (by kernel_rfl) Z1.out.rs _ rfl (.slice (some ⟨g, 0, none⟩) n cap) rfl ?_
  simp only [Act.put, List.setIfInBounds_toArray, List.set_cons_zero, List.set_cons_succ]
  refine Step.t_one (i := 3) rfl rfl (by kernel_rfl) ?_
  refine Step.w_callx 133 _ _ rfl Tryz.func133 (by kernel_rfl) rfl [.func (.func 109) #[] #[]] rfl (BT.out _) ?_
  rintro e w2 ⟨rfl, hc, hb⟩
  have Z3 := Lib.hid (Z1.out.bel hb)
  have PC := Lib.hid hc
  clear hc
  clear hb Z1
  refine ⟨_, rfl, Z3.out.rs, ?_⟩
  simp only [Act.put, List.setIfInBounds_toArray, List.set_cons_zero, List.set_cons_succ]
  refine Step.t_one (i := 4) rfl rfl (by kernel_rfl) ?_
  refine Step.w_callx 132 _ _ rfl Tryz.func132 (by kernel_rfl) rfl [.pointer (some ⟨cb, 0, none⟩), .int .u64 s, .slice (some ⟨g, 0, none⟩) n cap, .func (.func 167) #[] #[.pointer (some ⟨w.drew.heap.size, 0, none⟩)], .bool true] rfl (TW.out w.drew.heap.size _ Z3.out.rs.gb PC.out Z3.out.sec) ?_
  rintro e w4 ⟨rfl, hsec, hgr⟩
  have Z5 := Lib.hid (Z3.out.put hgr (hsec))
  clear hsec hgr Z3
  refine ⟨_, rfl, Z5.out.rs, ?_⟩
  simp only [Act.put, List.setIfInBounds_toArray, List.set_cons_zero, List.set_cons_succ]
  refine Step.t_end (by kernel_rfl) ?_
  go_wp2
  go_end0
  exact ⟨rfl, Z5.out.sec, Z5.out.rs.gb⟩

/-- starts that a mode names -/
def SfOk (k : Nat) : Prop := ∀ sf, (kindL 0 k)[3]? = some (fv sf) → FnOk sf
/-- what a build's proof has at hand -/
theorem md_of {k cb xb gk d : Nat} {E D A : Nat → Nat} {two : Bool} {fl wh : Nat → Nat} {cs : Array Value} {iv : Nat → Nat → Nat} {w' w2 : World} {v0 v1 s u : Value} (hk : k < 17) (hok : SfOk k) (hv0 : v0 = .pointer (some ⟨xb, 0, none⟩)) (hv1 : v1 = .pointer (some ⟨gk, k * 7, none⟩)) (hcb : w'.heap[cb]? = some (.cells #[v0, v1, .nilFunc, .nilFunc] 80 (0, 0))) (h2 : w2.heap[cb]? = some (.cells #[v0, v1, s, u] 80 (0, 0)))
    (hxb : w'.heap[xb]? = some (.cells cs 96 (0, 0))) (hky : KeyR E D A two fl wh cs w') (hkd : KindsAt gk d w') (hR : RconAt w') (hst : ∀ sf, (kindL 0 k)[3]? = some (fv sf) → ∀ w2, w2.heap[xb]? = some (.cells cs 96 (0, 0)) → KeyR E D A two fl wh cs w2 → RconAt w2 → StAt sf xb iv w2) (h4 : w'.grownBy w2 (some cb)) : Md k cb xb gk E D A two fl wh cs iv w2 := by
  subst hv0 hv1
  have kq : Kq w' w2 := Kq.of_gb hcb (by decide) (by decide) (fun z e => by cases e) h4
  have hx2 := (h4.block xb (Array.getElem?_eq_some_iff.1 hxb).1 (fun e => by cases e; rw [hcb] at hxb; cases hxb)).trans hxb
  have hR2 : RconAt w2 := fun i hi => cell_gb h4 (fun e => by
    have := hR 0 (by decide)
    rw [e, cell_of_row w' _ _ _ _ _ hcb] at this
    cases this) (hR i hi)
  exact ⟨hk, ⟨⟨_, _, h2⟩, hx2, d, KindsAt_gb hkd h4 (fun e => by
      have := hkd.c 0 (by decide) 0 _ rfl
      rw [e, cell_of_row w' _ _ _ _ _ hcb] at this
      cases this) (fun e => by
      have := hkd.d
      rw [e, hcb] at this
      cases this)⟩, hky.kq kq, fun sf e => ⟨hok sf e, hst sf e w2 hx2 (hky.kq kq) hR2⟩⟩
theorem buildXts (k : Nat) (hk : k < 17) (hok : SfOk k) (sf : FuncId) (hsf : (kindL 0 k)[3]? = some (fv sf)) (E D A : Nat → Nat) (fl wh : Nat → Nat) (iv : Nat → Nat → Nat) (hiv : ∀ s n, s < 2 ^ 64 → n ≤ 4096 → iv s n < 2 ^ 128) (hA : ∀ x, A x < 2 ^ 128) :
    BuildAt 79 k true E D A true fl wh iv (fun s n f => xtsF E false (A (iv s n)) n f) (fun s n f => xtsF D true (A (iv s n)) n f) := fun cb xb gk d cs w' hcb hxb hky hkd hR hst =>
  (asXTS_any cb _ _ w' hcb).mono fun e w2 ⟨h1, ⟨x, h2, h3⟩, h4⟩ => by
    have hM := md_of hk hok rfl rfl hcb h2 hxb hky hkd hR hst h4
    obtain ⟨v, m1, m2, m3⟩ := hM.ky.main
    exact ⟨h1, ⟨_, [], [.pointer (some ⟨x, 0, none⟩)], _, [], [.pointer (some ⟨x, 0, none⟩)], h2, ⟨_, Tryz.func131, by kernel_rfl, rfl⟩, ⟨_, Tryz.func134, by kernel_rfl, rfl⟩,
      fun s n g cap F0 w3 e1 e2 e3 _ e5 e6 e7 q e8 e9 => xts1_any hsf x E s n g cap e1 e2 e3 e5 e6 F0 e7 (hiv s n e1 e3) (hA _) w3 (hM.kp q) m1 (m2.kq q.q) (q.cell0 h3 (fun _ e => by cases e)) e8 e9,
      fun s n g cap F0 w3 e1 e2 e3 _ e5 e6 e7 q e8 e9 => xts2_any hsf x D s n g cap e1 e2 e3 e5 e6 F0 e7 (hiv s n e1 e3) (hA _) w3 (hM.kp q) m1 (m3.kq q.q) (q.cell0 h3 (fun _ e => by cases e)) e8 e9⟩, h4⟩
end Go.Proofs.YtmifebcaifbmoaaGreatDoor.G
end

/- Dig0 -/
section
namespace Go.Proofs.YtmifebcaifbmoaaGreatDoor.Dig
open Go.RowKit Go.Lib Go.Proofs.YtmifebcaifbmoaaGreatDoor.Blk

section
variable {P : Program} {ops : Array Oper} {Q : Exit → Act → World → Prop} {Q2 : Act → Prop} {C : World → Prop} {o : Oper} {rest : List Oper} {a : Act} {w : World}
theorem p_int (hg : Region.wanted o (yielded ops a.tmps) = true) (k : IntKind) (h0 : ∃ z, ∀ w, (execOp a.eval o).run P w = .ok (.value (.int k z)) w) (h : ∀ z, wpList P ops Q rest (a.put o.dst (.int k z)) w) : wpList P ops Q (o :: rest) a w := by
  obtain ⟨z, hz⟩ := h0
  exact Step.p_val hg _ (hz w) (h z)
theorem s_int (hg : Region.wanted o (yielded ops a.tmps) = true) (k : IntKind) (h0 : ∃ z, ∀ w, (execOp a.eval o).run P w = .ok (.value (.int k z)) w) (h : ∀ z, wpStill P ops w Q2 rest (a.put o.dst (.int k z))) : wpStill P ops w Q2 (o :: rest) a := by
  obtain ⟨z, hz⟩ := h0
  exact Still.s_val hg _ (hz w) (h z)
theorem q_int (hg : Region.wanted o (yielded ops a.tmps) = true) (k : IntKind) (h0 : ∃ z, ∀ w, (execOp a.eval o).run P w = .ok (.value (.int k z)) w) (h : ∀ z, wpQuiet P ops C Q2 rest (a.put o.dst (.int k z))) : wpQuiet P ops C Q2 (o :: rest) a := by
  obtain ⟨z, hz⟩ := h0
  exact Step.q_pure hg _ hz (h z)
end

section
variable {P : Program} {o : Oper} {a : Act}
theorem ex_bin (op : BinOp) (hop : op = .add ∨ op = .sub ∨ op = .mul ∨ op = .and ∨ op = .or ∨ op = .xor) (t r : TypeId) (x y : Operand) (ho : o.op = .binOp op t x y r) (k : IntKind) (m n : Int) (hx : a.eval x = .int k m) (hy : a.eval y = .int k n) : ∃ z, ∀ w, (execOp a.eval o).run P w = .ok (.value (.int k z)) w := by
  rcases hop with rfl | rfl | rfl | rfl | rfl | rfl
  all_goals
    apply Exists.intro
    intro w
    unfold execOp
    rw [ho]
    simp only [hx, hy]
    go_simp
    rfl
theorem ex_shl (t r : TypeId) (x y : Operand) (ho : o.op = .binOp .shl t x y r) (k k2 : IntKind) (m : Int) (n : Nat) (hx : a.eval x = .int k m) (hy : a.eval y = .int k2 n) : ∃ z, ∀ w, (execOp a.eval o).run P w = .ok (.value (.int k z)) w := by
  apply Exists.intro
  intro w
  unfold execOp
  rw [ho]
  simp only [hx, hy]
  go_simp
  rfl
theorem ex_shr (t r : TypeId) (x y : Operand) (ho : o.op = .binOp .shr t x y r) (k k2 : IntKind) (m : Int) (n : Nat) (hx : a.eval x = .int k m) (hy : a.eval y = .int k2 n) : ∃ z, ∀ w, (execOp a.eval o).run P w = .ok (.value (.int k z)) w := by
  apply Exists.intro
  intro w
  unfold execOp
  rw [ho]
  simp only [hx, hy]
  go_simp
  rfl
theorem ex_conv (t r : TypeId) (x : Operand) (ho : o.op = .convert t r x) (k k2 : IntKind) (m : Int) (hx : a.eval x = .int k m) (hu : P.underlying t = some (.int k)) (hr : P.underlying r = some (.int k2)) : ∃ z, ∀ w, (execOp a.eval o).run P w = .ok (.value (.int k2 z)) w := by
  apply Exists.intro
  intro w
  unfold execOp
  rw [ho]
  simp only [hx]
  go_simp
  rfl
theorem ex_not (t : TypeId) (x : Operand) (ho : o.op = .unOp .xor t x) (k : IntKind) (m : Int) (hx : a.eval x = .int k m) : ∃ z, ∀ w, (execOp a.eval o).run P w = .ok (.value (.int k z)) w := by
  apply Exists.intro
  intro w
  unfold execOp
  rw [ho]
  simp only [hx]
  go_simp
  rfl
end

section
variable {P : Program} {Q : Exit → Act → World → Prop} {S : World → Prop} {a : Act} {w : World} {fuel : Nat} {listed : Array Bool} {i : Nat} {o : Oper} {tl l : List Oper}
theorem t_int (hi : l.drop i = o :: tl) (hg : Region.wanted o (yielded l.toArray a.tmps) = true) (hs : Region.noSelect l.toArray = true) (hf : Region.free .any l.toArray listed i = true) (hr : (Region.ready .any l.toArray listed).contains i = true) (hS : S w) (k : IntKind) (h0 : ∃ z, ∀ w, (execOp a.eval o).run P w = .ok (.value (.int k z)) w)
    (h : ∀ z, wpAnyH P .any l.toArray (NoPanic Q) S fuel (listed.setIfInBounds i true) (a.put o.dst (.int k z)) w) : wpAnyH P .any l.toArray (NoPanic Q) S (fuel + 1) listed a w := by
  obtain ⟨z, hz⟩ := h0
  exact Step.t_val hi hg hs hf hr hS _ (fun w _ => hz w) (h z)
end
section
variable {P : Program} {Q : Exit → Act → World → Prop} {S : World → Prop} {a : Act} {w : World} {fuel : Nat} {listed : Array Bool} {i : Nat} {o : Oper} {tl l : List Oper}
theorem t_idxA (hi : l.drop i = o :: tl) (hg : Region.wanted o (yielded l.toArray a.tmps) = true) (hs : Region.noSelect l.toArray = true) (hf : Region.free .any l.toArray listed i = true) (hr : (Region.ready .any l.toArray listed).contains i = true) (hS : S w) (t e : TypeId) (x ix : Operand) (ho : o.op = .indexAddr t x ix) (b off : Nat) (hx : a.eval x = .pointer (some ⟨b, off, none⟩)) (k : IntKind) (j : Nat) (hj : a.eval ix = .int k j) {n size : Nat} (hlt : j < n)
    (hu : P.underlying t = some (.array n e)) (hi' : (P.info? e).map (·.size) = some size) (off2 : Nat) (ho2 : off + j * size = off2) (h : wpAnyH P .any l.toArray (NoPanic Q) S fuel (listed.setIfInBounds i true) (a.put o.dst (.pointer (some ⟨b, off2, none⟩))) w) : wpAnyH P .any l.toArray (NoPanic Q) S (fuel + 1) listed a w :=
  Step.t_val hi hg hs hf hr hS _ (fun w _ => by
    subst ho2
    unfold execOp
    simp only [ho, hx, hj, Sem.run_bind, Still.run_idxA hu hi' b off k j hlt w, Result.andThen_ok, Sem.run_pure]) h
end
/-- a block told by a property of each of its cells -/
def RowP (w : World) (b : Nat) (T : TypeId) (n : Nat) (p : Nat → Value → Prop) : Prop := ∃ cs : Array Value, w.heap[b]? = some (.cells cs T (0, 0)) ∧ cs.size = n ∧ ∀ j, j < n → ∃ v, cs[j]? = some v ∧ p j v
theorem RowP.lt {w : World} {b : Nat} {T : TypeId} {n : Nat} {p : Nat → Value → Prop} (h : RowP w b T n p) : b < w.heap.size := by
  obtain ⟨cs, h1, _⟩ := h
  exact (Array.getElem?_eq_some_iff.1 h1).1
theorem RowP.cell {w : World} {b : Nat} {T : TypeId} {n : Nat} {p : Nat → Value → Prop} (h : RowP w b T n p) {j : Nat} (hj : j < n) : ∃ v, w.cell? ⟨b, j, none⟩ = some v ∧ p j v := by
  obtain ⟨cs, h1, _, h3⟩ := h
  obtain ⟨v, e, hp⟩ := h3 j hj
  exact ⟨v, by rw [cell_of_row w b j _ _ _ h1]; exact e, hp⟩
theorem RowP.below {w w' : World} {b B : Nat} {T : TypeId} {n : Nat} {p : Nat → Value → Prop} (h : RowP w b T n p) (hb : Below B w w') (hB : b < B) : RowP w' b T n p := by
  obtain ⟨cs, h1, h2⟩ := h
  exact ⟨cs, (hb.block b hB).trans h1, h2⟩
theorem RowP.other {w w' : World} {b c : Nat} {T : TypeId} {n : Nat} {p : Nat → Value → Prop} (h : RowP w b T n p) (hg : w.grownBy w' (some c)) (hne : b ≠ c) : RowP w' b T n p := by
  obtain ⟨cs, h1, h2⟩ := h
  exact ⟨cs, (hg.block b (Array.getElem?_eq_some_iff.1 h1).1 (fun e => hne (Option.some.inj e))).trans h1, h2⟩
theorem RowP.drew {w : World} {b : Nat} {T : TypeId} {n : Nat} {p : Nat → Value → Prop} (h : RowP w b T n p) : RowP w.drew b T n p := h
theorem RowP.alloc {w : World} {b : Nat} {T : TypeId} {n : Nat} {p : Nat → Value → Prop} (h : RowP w b T n p) (ob : Obj) : RowP (w.alloc ob) b T n p := h.below ((Below.refl _ _).alloc (Nat.le_refl _) ob) h.lt
/-- a cell written -/
theorem RowP.put {w w' : World} {b : Nat} {T : TypeId} {n : Nat} {p : Nat → Value → Prop} {cs : Array Value} (h : RowP w b T n p) (hc : w.heap[b]? = some (.cells cs T (0, 0))) {j : Nat} {v : Value} (hv : p j v) (h' : w'.heap[b]? = some (.cells (cs.setIfInBounds j v) T (0, 0))) : RowP w' b T n p := by
  obtain ⟨cs', e1, e2, e3⟩ := h
  rw [hc] at e1
  cases e1
  refine ⟨_, h', by simpa using e2, fun i hi => ?_⟩
  obtain ⟨u, hu, hpu⟩ := e3 i hi
  by_cases hij : j = i
  · subst hij
    exact ⟨v, by rw [Array.getElem?_setIfInBounds_self_of_lt (Array.getElem?_eq_some_iff.1 hu).1], hv⟩
  · exact ⟨u, by rw [Array.getElem?_setIfInBounds_ne hij]; exact hu, hpu⟩
/-- a property that says: a number of a kind -/
def isInt (k : IntKind) (_ : Nat) (v : Value) : Prop := ∃ z, v = .int k z
theorem RowP.num {w : World} {b : Nat} {T : TypeId} {n : Nat} {k : IntKind} (h : RowP w b T n (isInt k)) {j : Nat} (hj : j < n) : ∃ z, w.cell? ⟨b, j, none⟩ = some (.int k z) := by
  obtain ⟨v, e, z, rfl⟩ := h.cell hj
  exact ⟨z, e⟩
theorem rowP_of_arr {w : World} {b : Nat} {T : TypeId} {n : Nat} {k : IntKind} {f : Nat → Int} (h : Arr w b k n T f) : RowP w b T n (isInt k) :=
  ⟨_, h, arr_size _ _ _, fun _j hj => ⟨_, arr_get _ _ _ _ hj, _, rfl⟩⟩
section
variable {P : Program} {ops : Array Oper} {Q : Exit → Act → World → Prop} {o : Oper} {rest : List Oper} {a : Act} {w : World}
/-- a number stored into such a block -/
theorem p_storeP (hgd : o.guard = none) (t : TypeId) (x y : Operand) (ho : o.op = .store t x y) (b off : Nat) (hx : a.eval x = .pointer (some ⟨b, off, none⟩)) (k : IntKind) (z : Int) (hy : a.eval y = .int k z) (hi : (P.info? t).map (·.size) = some 1) {T : TypeId} {n : Nat} {p : Nat → Value → Prop} (hb : RowP w b T n p) (hol : off < n) (hp : p off (.int k z))
    (h : ∀ w', RowP w' b T n p → w.grownBy w' (some b) → w'.heap.size = w.heap.size → wpList P ops Q rest (a.put o.dst undef) w') : wpList P ops Q (o :: rest) a w := by
  have hb2 := hb
  obtain ⟨cs, h1, h2, _⟩ := hb2
  exact Step.p_storeV hgd t x y ho b off hx (.int k z) hy (fun _ e => by cases e) rfl hi h1 (by omega) fun w' e1 e2 e3 => h w' (hb.put h1 hp e1) e2 e3
end

/-- bytes, whatever they are -/
def BU (w : World) (q : Option Addr) (n B : Nat) : Prop := ∀ i, i < n → ∃ g off, q = some ⟨g, off, none⟩ ∧ g < B ∧ ∃ z, w.cell? ⟨g, off + i, none⟩ = some (.int .u8 z)
theorem BU.next {w w' : World} {q : Option Addr} {n B C : Nat} (h : BU w q n B) (hb : ∀ g off z, g < B → w.cell? ⟨g, off, none⟩ = some (.int .u8 z) → w'.cell? ⟨g, off, none⟩ = some (.int .u8 z)) (hBC : B ≤ C) : BU w' q n C := fun i hi => by
  obtain ⟨g, off, e, hg, z, hz⟩ := h i hi
  exact ⟨g, off, e, Nat.lt_of_lt_of_le hg hBC, z, hb g _ z hg hz⟩
theorem cell_keep {w w' : World} {c g off : Nat} {v : Value} (hg : w.grownBy w' (some c)) (hne : g ≠ c) (h : w.cell? ⟨g, off, none⟩ = some v) : w'.cell? ⟨g, off, none⟩ = some v := by
  rw [← h]
  unfold World.cell?
  rw [hg.block g (Frame.block_lt h) (fun e => hne (Option.some.inj e))]
/-- words, whatever they are, in a variable's block -/
def WordsAt (g n : Nat) (w : World) : Prop := ∀ i, i < n → ∃ z, w.cell? ⟨g, i, none⟩ = some (.int .u64 z)
theorem WordsAt.below {g n : Nat} {w w' : World} (h : WordsAt g n w) (hb : Below w.heap.size w w') : WordsAt g n w' := fun i hi => by
  obtain ⟨z, hz⟩ := h i hi
  exact ⟨z, (hb.cell (p := ⟨g, i, none⟩) (Frame.block_lt hz)).trans hz⟩
theorem WordsAt.keep {g n c : Nat} {w w' : World} (h : WordsAt g n w) (hg : w.grownBy w' (some c)) (hne : g ≠ c) : WordsAt g n w' := fun i hi => by
  obtain ⟨z, hz⟩ := h i hi
  exact ⟨z, cell_keep hg hne hz⟩
/-- what a digest of blocks runs in: the words' block, the bytes, the roots -/
structure NW (hb nh : Nat) (T : TypeId) (p : Nat → Value → Prop) (cg cn : Nat) (q : Option Addr) (n : Nat) (w w' : World) : Prop where
  h : RowP w' hb T nh p
  bu : BU w' q n w.heap.size
  cu : WordsAt cg cn w'
  gb : w.grownBy w' (some hb)
  hl : hb < w.heap.size
  ne : cg ≠ hb
section
variable {hb nh : Nat} {T : TypeId} {p : Nat → Value → Prop} {cg cn : Nat} {q : Option Addr} {n : Nat} {w w1 w2 : World}
/-- a block of one's own is written -/
theorem NW.own (h : NW hb nh T p cg cn q n w w1) {c : Nat} (hg : w1.grownBy w2 (some c)) (hc : w.heap.size ≤ c) (hcg : cg < w.heap.size) : NW hb nh T p cg cn q n w w2 :=
  ⟨h.h.other hg (by have := h.hl; omega), h.bu.next (fun g off z hg' hz => cell_keep hg (by omega) hz) (Nat.le_refl _), h.cu.keep hg (by omega),
    ⟨hg.os.trans h.gb.os, hg.tape.trans h.gb.tape, hg.output.trans h.gb.output, Nat.le_trans h.gb.size hg.size, fun k hk hne => (hg.block k (Nat.lt_of_lt_of_le hk h.gb.size) (fun e => by cases e; omega)).trans (h.gb.block k hk hne)⟩, h.hl, h.ne⟩
theorem NW.below (h : NW hb nh T p cg cn q n w w1) (hg : Below w1.heap.size w1 w2) : NW hb nh T p cg cn q n w w2 :=
  ⟨h.h.below hg h.h.lt, h.bu.next (fun g off _z _ hz => (hg.cell (p := ⟨g, off, none⟩) (Frame.block_lt hz)).trans hz) (Nat.le_refl _), h.cu.below hg,
    ⟨hg.os.trans h.gb.os, hg.tape.trans h.gb.tape, hg.output.trans h.gb.output, Nat.le_trans h.gb.size hg.size, fun k hk hne => (hg.block k (Nat.lt_of_lt_of_le hk h.gb.size)).trans (h.gb.block k hk hne)⟩, h.hl, h.ne⟩
theorem NW.drew (h : NW hb nh T p cg cn q n w w1) : NW hb nh T p cg cn q n w w1.drew := h.below (Below.refl _ _).drew
/-- a word of the digest is written -/
theorem NW.put (h : NW hb nh T p cg cn q n w w1) {j : Nat} {cs : Array Value} {z z0 : Int} (hc : w1.heap[hb]? = some (.cells cs T (0, 0))) (h0 : w1.cell? ⟨hb, j, none⟩ = some (.int .u64 z0)) (hp : RowP w2 hb T nh p) (h' : w2.heap[hb]? = some (.cells (cs.setIfInBounds j (.int .u64 z)) T (0, 0))) (hg : w1.grownBy w2 (some hb)) : NW hb nh T p cg cn q n w w2 :=
  ⟨hp, h.bu.next (fun g off y _ hy => by
    by_cases e : g = hb
    · subst e
      by_cases e2 : off = j
      · subst e2
        rw [h0] at hy
        cases hy
      · rw [cell_of_row w1 g off _ _ _ hc] at hy
        rw [cell_of_row w2 g off _ _ _ h', Array.getElem?_setIfInBounds_ne (fun e => e2 e.symm)]
        exact hy
    · exact cell_keep hg e hy) (Nat.le_refl _), h.cu.keep hg h.ne, gb_trans h.gb hg, h.hl, h.ne⟩
/-- fewer bytes -/
theorem NW.cut {g off : Nat} (h : NW hb nh T p cg cn (some ⟨g, off, none⟩) n w w1) (d n2 : Nat) (hd : d + n2 ≤ n) : NW hb nh T p cg cn (some ⟨g, off + d, none⟩) n2 w w1 :=
  ⟨h.h, fun i hi => by
    obtain ⟨g', off', e', hg, z, hz⟩ := h.bu (d + i) (by omega)
    cases e'
    exact ⟨g, off + d, rfl, hg, z, by rw [Nat.add_assoc]; exact hz⟩, h.cu, h.gb, h.hl, h.ne⟩
theorem NW.none_ {q : Option Addr} (h : NW hb nh T p cg cn q n w w1) (q2 : Option Addr) : NW hb nh T p cg cn q2 0 w w1 := ⟨h.h, fun i hi => absurd hi (Nat.not_lt_zero i), h.cu, h.gb, h.hl, h.ne⟩
end
section
variable {P : Program} {ops : Array Oper} {Q : Exit → Act → World → Prop} {o : Oper} {rest : List Oper} {a : Act} {w : World}
/-- the same store, with the cells told -/
theorem p_storeR (hgd : o.guard = none) (t : TypeId) (x y : Operand) (ho : o.op = .store t x y) (b off : Nat) (hx : a.eval x = .pointer (some ⟨b, off, none⟩)) (k : IntKind) (z : Int) (hy : a.eval y = .int k z) (hi : (P.info? t).map (·.size) = some 1) {T : TypeId} {n : Nat} {p : Nat → Value → Prop} (hb : RowP w b T n p) (hol : off < n) (hp : p off (.int k z))
    (h : ∀ w' cs, w.heap[b]? = some (.cells cs T (0, 0)) → w'.heap[b]? = some (.cells (cs.setIfInBounds off (.int k z)) T (0, 0)) → RowP w' b T n p → w.grownBy w' (some b) → w'.heap.size = w.heap.size → wpList P ops Q rest (a.put o.dst undef) w') : wpList P ops Q (o :: rest) a w := by
  have hb2 := hb
  obtain ⟨cs, h1, h2, _⟩ := hb2
  exact Step.p_storeV hgd t x y ho b off hx (.int k z) hy (fun _ e => by cases e) rfl hi h1 (by omega) fun w' e1 e2 e3 => h w' cs h1 e1 (hb.put h1 hp e1) e2 e3
end
theorem w_storeP {P : Program} {a : Act} {w : World} {o : Oper} {K : Act → World → Prop} {Q : Exit → Act → World → Prop} (t : TypeId) (x y : Operand) (ho : o.op = .store t x y) (b off : Nat) (hx : a.eval x = .pointer (some ⟨b, off, none⟩)) (k : IntKind) (z : Int) (hy : a.eval y = .int k z) (hi : (P.info? t).map (·.size) = some 1) {T : TypeId} {n : Nat} {p : Nat → Value → Prop} (hb : RowP w b T n p) (hol : off < n) (hp : p off (.int k z))
    (h : ∀ w', RowP w' b T n p → w.grownBy w' (some b) → (∀ j, j ≠ off → w'.cell? ⟨b, j, none⟩ = w.cell? ⟨b, j, none⟩) → K (a.put o.dst undef) w') : o.wp P a w K Q := by
  have hb2 := hb
  obtain ⟨cs, h1, h2, _⟩ := hb2
  refine Step.w_storeV t x y ho b off hx (.int k z) hy (fun _ e => by cases e) rfl hi h1 (by omega) fun w' e1 e2 e3 => h w' (hb.put h1 hp e1) e2 fun j hj => ?_
  rw [cell_of_row w b j _ _ _ h1, cell_of_row w' b j _ _ _ e1, Array.getElem?_setIfInBounds_ne (fun e => hj e.symm)]
def rotZ (x : Int) (s : Nat) : Int := bits .or .u32 (IntKind.u32.wrap (x * 2 ^ s)) (x / 2 ^ (32 - s))
set_option maxHeartbeats 1000000 in
/-- a turned word: some word -/
theorem rot_any (k : Int) (s : Nat) (hk : bits .and .u64 (IntKind.u64.wrap k) 31 = (s : Int)) (hs : s ≤ 31) (x : Int) : ∃ z, ∀ w, Calls Tryz.prog 186 #[.int .u32 x, .int .i64 k] w fun e w' => e = .returned (.int .u32 z) ∧ w = w' := by
  refine ⟨rotZ x s, fun w => ?_⟩
  have HK := Lib.hid hk
  clear hk
  go_enter Tryz.func186, Tryz.ntmps186
  go_upto_region 2 with fail
  rw [HK.out]
  refine wp_region_lit ?_
  refine Step.p_move rfl _ rfl (.int .u32 x) rfl ?_
  simp only [Act.put, List.setIfInBounds_toArray, List.set_cons_zero, List.set_cons_succ]
  refine Step.p_move rfl _ rfl (.int .u64 s) rfl ?_
  simp only [Act.put, List.setIfInBounds_toArray, List.set_cons_zero, List.set_cons_succ]
  refine Step.p_val rfl (.int .u32 (IntKind.u32.wrap (x * 2 ^ s))) (by unfold execOp; go_simp) ?_
  simp only [Act.put, List.setIfInBounds_toArray, List.set_cons_zero, List.set_cons_succ]
  refine Step.p_move rfl _ rfl (.int .u32 x) rfl ?_
  simp only [Act.put, List.setIfInBounds_toArray, List.set_cons_zero, List.set_cons_succ]
  refine Step.p_move rfl _ rfl (.int .u64 s) rfl ?_
  simp only [Act.put, List.setIfInBounds_toArray, List.set_cons_zero, List.set_cons_succ]
  refine Step.p_val rfl (.int .u64 (32 - s : Nat)) (by unfold execOp; go_simp; exact (IntWalk.u64_in _ (by omega)).trans (by omega)) ?_
  simp only [Act.put, List.setIfInBounds_toArray, List.set_cons_zero, List.set_cons_succ]
  refine Step.p_val rfl (.int .u32 (x / 2 ^ (32 - s))) (by unfold execOp; go_simp) ?_
  simp only [Act.put, List.setIfInBounds_toArray, List.set_cons_zero, List.set_cons_succ]
  refine Step.p_val rfl (.int .u32 (rotZ x s)) (by unfold execOp; go_simp; try rfl) ?_
  simp only [Act.put, List.setIfInBounds_toArray, List.set_cons_zero, List.set_cons_succ]
  refine Step.p_assign rfl _ rfl (.int .u32 (rotZ x s)) rfl ?_
  simp only [Act.put, List.setIfInBounds_toArray, List.set_cons_zero, List.set_cons_succ]
  refine wpList_nil ?_
  go_wp2
  go_ret
  exact ⟨rfl, rfl⟩
end Go.Proofs.YtmifebcaifbmoaaGreatDoor.Dig
end
