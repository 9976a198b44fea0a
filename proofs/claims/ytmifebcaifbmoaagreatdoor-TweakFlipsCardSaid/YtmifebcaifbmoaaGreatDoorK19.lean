/- Parts of the proof of TweakFlips. Runs: tweak: ECB's functions; CBC: chain, unchain. -/
import Derived.Test.YtmifebcaifbmoaaGreatDoorK17
import Derived.Test.YtmifebcaifbmoaaGreatDoorK18
/- Runs -/
section
namespace Go.Proofs.YtmifebcaifbmoaaGreatDoor.G
open Go.RowKit Go.Lib Go.Proofs.YtmifebcaifbmoaaGreatDoor.Blk Go.Proofs.YtmifebcaifbmoaaGreatDoor.Poly Go.Proofs.YtmifebcaifbmoaaGreatDoor.Field Go.Proofs.YtmifebcaifbmoaaGreatDoor.Tab Go.Proofs.YtmifebcaifbmoaaGreatDoor.Tw Go.Proofs.YtmifebcaifbmoaaGreatDoor.RS

set_option maxRecDepth 100000 in
set_option maxHeartbeats 16000000 in
theorem unchain_any {k cb xb gk : Nat} {E0 D0 A : Nat → Nat} {two : Bool} {fl wh : Nat → Nat} {cs : Array Value} {iv : Nat → Nat → Nat} {sf : FuncId} (hsf : (kindL 0 k)[3]? = some (fv sf)) (E : Nat → Nat) (s n g cap : Nat) (hs : s < 2 ^ 64) (h16 : 16 ≤ n) (hn : n ≤ 4096) (hn16 : n % 16 = 0) (hnc : n ≤ cap) (hcm : cap ≤ 9223372036854775807)
    (F0 : Nat → Nat) (hF : ∀ i, F0 i < 256) (w : World) (hM : Md k cb xb gk E0 D0 A two fl wh cs iv w) (hS : Sec w g n F0) (hg : g ≠ 2) {v : Value} (hv : cs[2]? = some v) (hD : DoK 109 v E w) (_hE : ∀ b, E b < 2 ^ 128) (_hiv : iv s n < 2 ^ 128) :
    Calls Tryz.prog 112 #[.pointer (some ⟨cb, 0, none⟩), .int .u64 s, .slice (some ⟨g, 0, none⟩) n cap] w fun e w' => e = .returned (.tuple #[]) ∧ Sec w' g n (cbcO E (iv s n) n F0) ∧ w.grownBy w' (some g) := by
  unfold cbcO
  obtain ⟨⟨sfn, q1, q2, q3⟩, hst⟩ := hM.st sf hsf
  have KPF := Lib.hid (fun w' (h : w.grownBy w' (some g)) => Kp.of_gb hS (by omega) hg h)
  have C0 := Lib.hid (fun w' (h : w.grownBy w' (some g)) => (hM.rd.kp (KPF.out w' h)).c0)
  have C2 := Lib.hid (fun w' (h : w.grownBy w' (some g)) => (hM.rd.kp (KPF.out w' h)).cx hv)
  have GT := Lib.hid (fun (F : Nat → Nat) (hF : ∀ i, F i < 256) j (hj : 16 * j + 16 ≤ n) w' hS => get_any g n cap j F hF hj hnc hcm w' hS)
  have PU := Lib.hid (fun (F : Nat → Nat) j x (hj : 16 * j + 16 ≤ n) w' hS => put_any g n cap j x F hj hnc hcm w' hS)
  have Z0 := Lib.hid (RZ.start hS)
  have hgl := hS.lt
  obtain ⟨m, hm⟩ : ∃ m, n / 16 = m := ⟨_, rfl⟩
  have HM : Hid ((n : Int).tdiv 16 = (m : Nat)) := Lib.hid (by rw [← hm]; rfl)
  have hb1 : 1 ≤ m ∧ m ≤ 256 := by omega
  have HMR : Hid (n = 16 * m) := Lib.hid (by omega)
  rw [hm]
  have C1 := Lib.hid (fun w' (h : w.grownBy w' (some g)) => (hM.rd.kp (KPF.out w' h)).c1)
  have CK := Lib.hid (fun w' (h : w.grownBy w' (some g)) => (hM.rd.kp (KPF.out w' h)).ks hM.hk hsf)
  have ST := Lib.hid (fun w' (h : w.grownBy w' (some g)) => hst s n w' hs hn (KPF.out w' h))
  have DO := Lib.hid (fun b (hb : b < 2 ^ 128) w' (h : w.grownBy w' (some g)) => hD b hb w' (KPF.out w' h).q)
  obtain ⟨t0, ht0⟩ : ∃ t0, iv s n = t0 := ⟨_, rfl⟩
  rw [ht0] at ST _hiv ⊢
  clear hM hst hS hD hsf hv hm ht0
  go_enter Tryz.func112, Tryz.ntmps112
  go_upto_region 0 with fail
  go_cut [6] from 9 to 23 (fun q wx => ∃ ab, q = .pointer (some ⟨ab, 0, none⟩) ∧ RZ g n F0 [(ab, t0)] w wx)
  case first =>
    refine Step.begin_ (S := fun w' => RS g [] w w') 17 rfl (by kernel_rfl) Z0.out.drew.rs ?_
    intro hSS
    clear hSS
    have Z1 := Lib.hid Z0.out.drew
    clear Z0
    refine Step.t_move (i := 0) rfl rfl (by kernel_rfl) (by kernel_rfl) (by kernel_rfl) Z1.out.rs _ rfl (.pointer (some ⟨cb, 0, none⟩)) rfl ?_
    simp only [Act.put, List.setIfInBounds_toArray, List.set_cons_zero, List.set_cons_succ]
    refine Step.t_move (i := 7) rfl rfl (by kernel_rfl) (by kernel_rfl) (by kernel_rfl) Z1.out.rs _ rfl (.pointer (some ⟨cb, 0, none⟩)) rfl ?_
    simp only [Act.put, List.setIfInBounds_toArray, List.set_cons_zero, List.set_cons_succ]
    refine Step.t_move (i := 11) rfl rfl (by kernel_rfl) (by kernel_rfl) (by kernel_rfl) Z1.out.rs _ rfl (.int .u64 s) rfl ?_
    simp only [Act.put, List.setIfInBounds_toArray, List.set_cons_zero, List.set_cons_succ]
    refine Step.t_move (i := 12) rfl rfl (by kernel_rfl) (by kernel_rfl) (by kernel_rfl) Z1.out.rs _ rfl (.slice (some ⟨g, 0, none⟩) n cap) rfl ?_
    simp only [Act.put, List.setIfInBounds_toArray, List.set_cons_zero, List.set_cons_succ]
    refine Step.t_val (i := 1) rfl rfl (by kernel_rfl) (by kernel_rfl) (by kernel_rfl) Z1.out.rs (.pointer (some ⟨cb, 0, none⟩)) (fun w' _ => by rfl) ?_
    simp only [Act.put, List.setIfInBounds_toArray, List.set_cons_zero, List.set_cons_succ]
    refine Step.t_val (i := 8) rfl rfl (by kernel_rfl) (by kernel_rfl) (by kernel_rfl) Z1.out.rs (.pointer (some ⟨cb, 0, none⟩)) (fun w' _ => by rfl) ?_
    simp only [Act.put, List.setIfInBounds_toArray, List.set_cons_zero, List.set_cons_succ]
    refine Step.t_val (i := 13) rfl rfl (by kernel_rfl) (by kernel_rfl) (by kernel_rfl) Z1.out.rs (.int .i64 n) (fun w' _ => by unfold execOp; go_simp) ?_
    simp only [Act.put, List.setIfInBounds_toArray, List.set_cons_zero, List.set_cons_succ]
    refine Tree.t_field (i := 2) rfl rfl (by kernel_rfl) (by kernel_rfl) (by kernel_rfl) Z1.out.rs _ _ _ rfl (cb) (0) rfl Tryz.underlying80 rfl (sz := 1) (by kernel_rfl) (by decide) (1) rfl ?_
    simp only [Act.put, List.setIfInBounds_toArray, List.set_cons_zero, List.set_cons_succ]
    refine Tree.t_field (i := 9) rfl rfl (by kernel_rfl) (by kernel_rfl) (by kernel_rfl) Z1.out.rs _ _ _ rfl (cb) (0) rfl Tryz.underlying80 rfl (sz := 1) (by kernel_rfl) (by decide) (0) rfl ?_
    simp only [Act.put, List.setIfInBounds_toArray, List.set_cons_zero, List.set_cons_succ]
    refine Tree.t_load1 (i := 3) rfl rfl (by kernel_rfl) (by kernel_rfl) (by kernel_rfl) Z1.out.rs _ _ rfl (cb) (1) rfl (.pointer (some ⟨gk, k * 7, none⟩)) (fun w' h => C1.out w' h.gb) Tryz.underlying77 rfl ?_
    simp only [Act.put, List.setIfInBounds_toArray, List.set_cons_zero, List.set_cons_succ]
    refine Tree.t_load1 (i := 10) rfl rfl (by kernel_rfl) (by kernel_rfl) (by kernel_rfl) Z1.out.rs _ _ rfl (cb) (0) rfl (.pointer (some ⟨xb, 0, none⟩)) (fun w' h => C0.out w' h.gb) Tryz.underlying76 rfl ?_
    simp only [Act.put, List.setIfInBounds_toArray, List.set_cons_zero, List.set_cons_succ]
    refine Step.t_val (i := 4) rfl rfl (by kernel_rfl) (by kernel_rfl) (by kernel_rfl) Z1.out.rs (.pointer (some ⟨gk, k * 7, none⟩)) (fun w' _ => by rfl) ?_
    simp only [Act.put, List.setIfInBounds_toArray, List.set_cons_zero, List.set_cons_succ]
    refine Tree.t_field (i := 5) rfl rfl (by kernel_rfl) (by kernel_rfl) (by kernel_rfl) Z1.out.rs _ _ _ rfl (gk) (k * 7) rfl Tryz.underlying93 rfl (sz := 1) (by kernel_rfl) (by decide) (k * 7 + 3) rfl ?_
    simp only [Act.put, List.setIfInBounds_toArray, List.set_cons_zero, List.set_cons_succ]
    refine Tree.t_load1 (i := 6) rfl rfl (by kernel_rfl) (by kernel_rfl) (by kernel_rfl) Z1.out.rs _ _ rfl (gk) (k * 7 + 3) rfl (fv sf) (fun w' h => CK.out w' h.gb) Tryz.underlying89 rfl ?_
    simp only [Act.put, List.setIfInBounds_toArray, List.set_cons_zero, List.set_cons_succ]
    refine Step.t_two (i := 14) (j := 15) rfl rfl rfl rfl (by kernel_rfl) ?_ ?_
    · refine Step.w_callv _ _ _ rfl sf [] rfl q1 q2 q3 [.pointer (some ⟨xb, 0, none⟩), .int .u64 s, .int .i64 n] rfl (ST.out _ Z1.out.rs.gb) ?_
      rintro e w2 ⟨rfl, hb⟩
      have Z3 := Lib.hid (Z1.out.bel hb)
      clear hb Z1
      refine ⟨_, rfl, Z3.out.rs, ?_⟩
      simp only [Act.put, List.setIfInBounds_toArray, List.set_cons_zero, List.set_cons_succ]
      refine Step.t_one (i := 15) rfl rfl (by kernel_rfl) ?_
      refine Tw.w_newarr 27 rfl .u8 16 RS.z16 ?_
      intro w4 ha hg2 _
      obtain ⟨ab, hab⟩ : ∃ ab, w2.heap.size = ab := ⟨_, rfl⟩
      rw [hab] at ha ⊢
      have Z5 := Lib.hid (Z3.out.new hab ha hg2)
      clear ha hg2 hab Z3
      refine ⟨Z5.out.rs.tail, ?_⟩
      simp only [Act.put, List.setIfInBounds_toArray, List.set_cons_zero, List.set_cons_succ]
      refine Step.t_one (i := 16) rfl rfl (by kernel_rfl) ?_
      refine RS.w_store 27 _ _ rfl (ab) rfl rfl (Z5.out.rs.own (ab, 0) (.head _)).1 Field.info16 ?_
      intro w6 ha hg2 _
      have Z7 := Lib.hid (Z5.out.store0 (y := t0) ha hg2)
      clear ha hg2 Z5
      refine ⟨Z7.out.rs.tail, ?_⟩
      simp only [Act.put]
      refine Step.t_end (by kernel_rfl) ?_
      go_wp2
      go_meet
      case rel => exact ⟨ab, rfl, Z7.out⟩
    · refine Tw.w_newarr 27 rfl .u8 16 RS.z16 ?_
      intro w2 ha hg2 _
      obtain ⟨ab, hab⟩ : ∃ ab, w.drew.heap.size = ab := ⟨_, rfl⟩
      rw [hab] at ha ⊢
      have Z3 := Lib.hid (Z1.out.new hab ha hg2)
      clear ha hg2 hab Z1
      refine ⟨Z3.out.rs.tail, ?_⟩
      simp only [Act.put, List.setIfInBounds_toArray, List.set_cons_zero, List.set_cons_succ]
      refine Step.t_one (i := 14) rfl rfl (by kernel_rfl) ?_
      refine Step.w_callv _ _ _ rfl sf [] rfl q1 q2 q3 [.pointer (some ⟨xb, 0, none⟩), .int .u64 s, .int .i64 n] rfl (ST.out _ Z3.out.rs.gb) ?_
      rintro e w4 ⟨rfl, hb⟩
      have Z5 := Lib.hid (Z3.out.bel hb)
      clear hb Z3
      refine ⟨_, rfl, Z5.out.rs.tail, ?_⟩
      simp only [Act.put, List.setIfInBounds_toArray, List.set_cons_zero, List.set_cons_succ]
      refine Step.t_one (i := 16) rfl rfl (by kernel_rfl) ?_
      refine RS.w_store 27 _ _ rfl (ab) rfl rfl (Z5.out.rs.own (ab, 0) (.head _)).1 Field.info16 ?_
      intro w6 ha hg2 _
      have Z7 := Lib.hid (Z5.out.store0 (y := t0) ha hg2)
      clear ha hg2 Z5
      refine ⟨Z7.out.rs.tail, ?_⟩
      simp only [Act.put]
      refine Step.t_end (by kernel_rfl) ?_
      go_wp2
      go_meet
      case rel => exact ⟨ab, rfl, Z7.out⟩
  obtain ⟨ab, rfl, hz⟩ := hcut
  have Z1 := Lib.hid hz
  clear hz Z0 ST C1 CK
  go_upto_region 1 with fail
  refine wp_region_lit ?_
  refine Step.p_move rfl _ rfl (.slice (some ⟨g, 0, none⟩) n cap) rfl ?_
  simp only [Act.put, List.setIfInBounds_toArray, List.set_cons_zero, List.set_cons_succ]
  refine Step.p_len rfl _ _ 5 rfl ((some ⟨g, 0, none⟩)) (n) (cap) rfl Tryz.underlying22 ?_
  simp only [Act.put, List.setIfInBounds_toArray, List.set_cons_zero, List.set_cons_succ]
  refine Step.p_val rfl (.int .i64 (m : Nat)) (by unfold execOp; have := HM.out; go_simp; first | exact IntWalk.i64_in _ (by omega) | omega | (rw [HM.out]; exact IntWalk.i64_in _ (by omega))) ?_
  simp only [Act.put, List.setIfInBounds_toArray, List.set_cons_zero, List.set_cons_succ]
  refine Step.p_move rfl _ rfl (.int .i64 0) rfl ?_
  simp only [Act.put, List.setIfInBounds_toArray, List.set_cons_zero, List.set_cons_succ]
  refine wpList_nil ?_
  go_wp2
  go_loopw [27, 7, 8] (fun i _ _ wr => ∃ k2 : Nat, k2 ≤ m ∧ i = .int .i64 k2 ∧ RZ g n (blkF (fun j x => E x ^^^ cbcP t0 F0 j) F0 k2) [(ab, cbcP t0 F0 k2)] w wr) (fun i _ _ _ => m - (Lib.intOf i).toNat)
  case atStart => exact ⟨0, by omega, rfl, Z1.out.congr fun i _ => (blkF_zero _ _ i).symm⟩
  case round =>
    obtain ⟨k2, hk, rfl, hz⟩ := hrel
    have Z3 := Lib.hid hz
    clear hz Z1
    by_cases hlt : k2 < m
    · skip
      have hk16 : 16 * k2 + 16 ≤ n := by have := HMR.out; omega
      have GTk := Lib.hid (fun w' hS => GT.out (blkF (fun j x => E x ^^^ cbcP t0 F0 j) F0 k2) (blkF_lt hF k2) k2 hk16 w' hS)
      rw [blkF_blk] at GTk
      go_upto_region 3 with fail
      refine wp_region_lit ?_
      refine Step.p_move rfl _ rfl (.int .i64 k2) rfl ?_
      simp only [Act.put, List.setIfInBounds_toArray, List.set_cons_zero, List.set_cons_succ]
      refine Step.p_assign rfl _ rfl (.int .i64 k2) rfl ?_
      simp only [Act.put, List.setIfInBounds_toArray, List.set_cons_zero, List.set_cons_succ]
      refine wpList_nil ?_
      go_upto_region 4 with fail
      refine wp_region_lit ?_
      refine Step.p_move rfl _ rfl (.slice (some ⟨g, 0, none⟩) n cap) rfl ?_
      simp only [Act.put, List.setIfInBounds_toArray, List.set_cons_zero, List.set_cons_succ]
      refine Step.p_move rfl _ rfl (.int .i64 k2) rfl ?_
      simp only [Act.put, List.setIfInBounds_toArray, List.set_cons_zero, List.set_cons_succ]
      refine Step.p_wp rfl (Step.w_callx 107 _ _ rfl Tryz.func107 (by kernel_rfl) rfl [.slice (some ⟨g, 0, none⟩) n cap, .int .i64 k2] rfl (GTk.out _ Z3.out.sec) ?_)
      rintro e w91 ⟨rfl, hb⟩
      have Z92 := Lib.hid (Z3.out.bel hb)
      clear hb Z3
      refine ⟨_, rfl, ?_⟩
      simp only [Act.put, List.setIfInBounds_toArray, List.set_cons_zero, List.set_cons_succ]
      refine New.p_newarr rfl 27 rfl .u8 16 RS.z16 ?_
      intro w93 ha hg2 _
      obtain ⟨xx, hxx⟩ : ∃ xx, w91.heap.size = xx := ⟨_, rfl⟩
      rw [hxx] at ha ⊢
      have Z94 := Lib.hid (Z92.out.new hxx ha hg2)
      clear ha hg2 hxx Z92
      simp only [Act.put, List.setIfInBounds_toArray, List.set_cons_zero, List.set_cons_succ]
      refine Step.p_store 27 _ _ rfl (xx) rfl rfl (Z94.out.rs.own (xx, 0) (.head _)).1 Field.info16 rfl ?_
      intro w95 ha hg2 _
      have Z96 := Lib.hid (Z94.out.store0 (y := blkN F0 k2) ha hg2)
      clear ha hg2 Z94
      simp only [Act.put]
      refine wpList_nil ?_
      go_upto_region 5 with fail
      refine Step.begin_ (S := fun w' => RS g [(xx, blkN F0 k2), (ab, cbcP t0 F0 k2)] w w') 14 rfl (by kernel_rfl) Z96.out.drew.rs ?_
      intro hSS
      clear hSS
      have Z97 := Lib.hid Z96.out.drew
      clear Z96
      refine Step.t_move (i := 0) rfl rfl (by kernel_rfl) (by kernel_rfl) (by kernel_rfl) Z97.out.rs _ rfl (.slice (some ⟨g, 0, none⟩) n cap) rfl ?_
      simp only [Act.put, List.setIfInBounds_toArray, List.set_cons_zero, List.set_cons_succ]
      refine Step.t_move (i := 1) rfl rfl (by kernel_rfl) (by kernel_rfl) (by kernel_rfl) Z97.out.rs _ rfl (.int .i64 k2) rfl ?_
      simp only [Act.put, List.setIfInBounds_toArray, List.set_cons_zero, List.set_cons_succ]
      refine Step.t_move (i := 2) rfl rfl (by kernel_rfl) (by kernel_rfl) (by kernel_rfl) Z97.out.rs _ rfl (.pointer (some ⟨cb, 0, none⟩)) rfl ?_
      simp only [Act.put, List.setIfInBounds_toArray, List.set_cons_zero, List.set_cons_succ]
      refine Step.t_load (i := 9) rfl rfl (by kernel_rfl) (by kernel_rfl) (by kernel_rfl) Z97.out.rs _ _ rfl (xx) rfl (fun w' h => (h.own (xx, blkN F0 k2) (.head _)).1) Tryz.underlying27 rfl Field.info16 ?_
      simp only [Act.put, List.setIfInBounds_toArray, List.set_cons_zero, List.set_cons_succ]
      refine Step.t_load (i := 11) rfl rfl (by kernel_rfl) (by kernel_rfl) (by kernel_rfl) Z97.out.rs _ _ rfl (ab) rfl (fun w' h => (h.own (ab, cbcP t0 F0 k2) (.tail _ (.head _))).1) Tryz.underlying27 rfl Field.info16 ?_
      simp only [Act.put, List.setIfInBounds_toArray, List.set_cons_zero, List.set_cons_succ]
      refine Step.t_val (i := 3) rfl rfl (by kernel_rfl) (by kernel_rfl) (by kernel_rfl) Z97.out.rs (.pointer (some ⟨cb, 0, none⟩)) (fun w' _ => by rfl) ?_
      simp only [Act.put, List.setIfInBounds_toArray, List.set_cons_zero, List.set_cons_succ]
      refine Tree.t_field (i := 4) rfl rfl (by kernel_rfl) (by kernel_rfl) (by kernel_rfl) Z97.out.rs _ _ _ rfl (cb) (0) rfl Tryz.underlying80 rfl (sz := 1) (by kernel_rfl) (by decide) (0) rfl ?_
      simp only [Act.put, List.setIfInBounds_toArray, List.set_cons_zero, List.set_cons_succ]
      refine Tree.t_load1 (i := 5) rfl rfl (by kernel_rfl) (by kernel_rfl) (by kernel_rfl) Z97.out.rs _ _ rfl (cb) (0) rfl (.pointer (some ⟨xb, 0, none⟩)) (fun w' h => C0.out w' h.gb) Tryz.underlying76 rfl ?_
      simp only [Act.put, List.setIfInBounds_toArray, List.set_cons_zero, List.set_cons_succ]
      refine Step.t_val (i := 6) rfl rfl (by kernel_rfl) (by kernel_rfl) (by kernel_rfl) Z97.out.rs (.pointer (some ⟨xb, 0, none⟩)) (fun w' _ => by rfl) ?_
      simp only [Act.put, List.setIfInBounds_toArray, List.set_cons_zero, List.set_cons_succ]
      refine Tree.t_field (i := 7) rfl rfl (by kernel_rfl) (by kernel_rfl) (by kernel_rfl) Z97.out.rs _ _ _ rfl (xb) (0) rfl Tryz.underlying96 rfl (sz := 1) (by kernel_rfl) (by decide) (2) rfl ?_
      simp only [Act.put, List.setIfInBounds_toArray, List.set_cons_zero, List.set_cons_succ]
      refine Tree.t_load1 (i := 8) rfl rfl (by kernel_rfl) (by kernel_rfl) (by kernel_rfl) Z97.out.rs _ _ rfl (xb) (2) rfl (v) (fun w' h => C2.out w' h.gb) Tryz.underlying94 rfl ?_
      simp only [Act.put, List.setIfInBounds_toArray, List.set_cons_zero, List.set_cons_succ]
      refine Step.t_one (i := 10) rfl rfl (by kernel_rfl) ?_
      refine Step.w_callx 109 _ _ rfl Tryz.func109 (by kernel_rfl) rfl [v, B16 (blkN F0 k2)] rfl (DO.out _ (blkN_lt hF k2) _ Z97.out.rs.gb) ?_
      rintro e w98 ⟨rfl, hb⟩
      have Z99 := Lib.hid (Z97.out.bel hb)
      clear hb Z97
      refine ⟨_, rfl, Z99.out.rs, ?_⟩
      simp only [Act.put, List.setIfInBounds_toArray, List.set_cons_zero, List.set_cons_succ]
      refine Step.t_one (i := 12) rfl rfl (by kernel_rfl) ?_
      refine Step.w_callx 55 _ _ rfl Tryz.func55 (by kernel_rfl) rfl [B16 (E (blkN F0 k2)), B16 (cbcP t0 F0 k2)] rfl (xor_num _ _ _) ?_
      rintro e w100 ⟨rfl, hb⟩
      have Z101 := Lib.hid (Z99.out.bel hb)
      clear hb Z99
      refine ⟨_, rfl, Z101.out.rs, ?_⟩
      simp only [Act.put, List.setIfInBounds_toArray, List.set_cons_zero, List.set_cons_succ]
      refine Step.t_one (i := 13) rfl rfl (by kernel_rfl) ?_
      refine Step.w_callx 105 _ _ rfl Tryz.func105 (by kernel_rfl) rfl [.slice (some ⟨g, 0, none⟩) n cap, .int .i64 k2, B16 (E (blkN F0 k2) ^^^ cbcP t0 F0 k2)] rfl (PU.out (blkF (fun j x => E x ^^^ cbcP t0 F0 j) F0 k2) k2 _ hk16 _ Z101.out.sec) ?_
      rintro e w102 ⟨rfl, hsec, hgr⟩
      have Z103 := Lib.hid (Z101.out.put hgr (hsec.congr fun i _ => blkF_put (fun j x => E x ^^^ cbcP t0 F0 j) F0 k2 i))
      clear hsec hgr Z101
      refine ⟨_, rfl, Z103.out.rs, ?_⟩
      simp only [Act.put, List.setIfInBounds_toArray, List.set_cons_zero, List.set_cons_succ]
      refine Step.t_end (by kernel_rfl) ?_
      go_upto_region 6 with fail
      refine wp_region_lit ?_
      refine Step.p_load rfl _ _ rfl (xx) rfl (Z103.out.rs.own (xx, blkN F0 k2) (.head _)).1 Tryz.underlying27 rfl Field.info16 ?_
      simp only [Act.put, List.setIfInBounds_toArray, List.set_cons_zero, List.set_cons_succ]
      refine Step.p_store 27 _ _ rfl (ab) rfl rfl (Z103.out.rs.own (ab, cbcP t0 F0 k2) (.tail _ (.head _))).1 Field.info16 rfl ?_
      intro w104 ha hg2 _
      have Z105 := Lib.hid (Z103.out.store1 (y := blkN F0 k2) ha hg2)
      clear ha hg2 Z103
      simp only [Act.put]
      refine wpList_nil ?_
      have PE : cbcP t0 F0 (k2 + 1) = blkN F0 k2 := by unfold cbcP; rw [if_neg (by omega), Nat.add_sub_cancel]
      go_wp2
      go_roundw
      case rel => exact ⟨k2 + 1, by omega, by go_num, by rw [PE]; exact ⟨Z105.out.rs.tail, Z105.out.sec⟩⟩
      case measure => simp [Lib.intOf]; omega
    · obtain rfl : k2 = m := by omega
      go_wp2
      go_end0
      exact ⟨rfl, Z3.out.sec, Z3.out.rs.gb⟩

set_option maxRecDepth 100000 in
set_option maxHeartbeats 16000000 in
theorem chain_any {k cb xb gk : Nat} {E0 D0 A : Nat → Nat} {two : Bool} {fl wh : Nat → Nat} {cs : Array Value} {iv : Nat → Nat → Nat} {sf : FuncId} (hsf : (kindL 0 k)[3]? = some (fv sf)) (E : Nat → Nat) (s n g cap : Nat) (hs : s < 2 ^ 64) (h16 : 16 ≤ n) (hn : n ≤ 4096) (hn16 : n % 16 = 0) (hnc : n ≤ cap) (hcm : cap ≤ 9223372036854775807)
    (F0 : Nat → Nat) (hF : ∀ i, F0 i < 256) (w : World) (hM : Md k cb xb gk E0 D0 A two fl wh cs iv w) (hS : Sec w g n F0) (hg : g ≠ 2) {v : Value} (hv : cs[2]? = some v) (hD : DoK 106 v E w) (hE : ∀ b, E b < 2 ^ 128) (hiv : iv s n < 2 ^ 128) :
    Calls Tryz.prog 111 #[.pointer (some ⟨cb, 0, none⟩), .int .u64 s, .slice (some ⟨g, 0, none⟩) n cap] w fun e w' => e = .returned (.tuple #[]) ∧ Sec w' g n (cbcS E (iv s n) n F0) ∧ w.grownBy w' (some g) := by
  unfold cbcS
  obtain ⟨⟨sfn, q1, q2, q3⟩, hst⟩ := hM.st sf hsf
  have KPF := Lib.hid (fun w' (h : w.grownBy w' (some g)) => Kp.of_gb hS (by omega) hg h)
  have C0 := Lib.hid (fun w' (h : w.grownBy w' (some g)) => (hM.rd.kp (KPF.out w' h)).c0)
  have C2 := Lib.hid (fun w' (h : w.grownBy w' (some g)) => (hM.rd.kp (KPF.out w' h)).cx hv)
  have GT := Lib.hid (fun (F : Nat → Nat) (hF : ∀ i, F i < 256) j (hj : 16 * j + 16 ≤ n) w' hS => get_any g n cap j F hF hj hnc hcm w' hS)
  have PU := Lib.hid (fun (F : Nat → Nat) j x (hj : 16 * j + 16 ≤ n) w' hS => put_any g n cap j x F hj hnc hcm w' hS)
  have Z0 := Lib.hid (RZ.start hS)
  have hgl := hS.lt
  obtain ⟨m, hm⟩ : ∃ m, n / 16 = m := ⟨_, rfl⟩
  have HM : Hid ((n : Int).tdiv 16 = (m : Nat)) := Lib.hid (by rw [← hm]; rfl)
  have hb1 : 1 ≤ m ∧ m ≤ 256 := by omega
  have HMR : Hid (n = 16 * m) := Lib.hid (by omega)
  rw [hm]
  have C1 := Lib.hid (fun w' (h : w.grownBy w' (some g)) => (hM.rd.kp (KPF.out w' h)).c1)
  have CK := Lib.hid (fun w' (h : w.grownBy w' (some g)) => (hM.rd.kp (KPF.out w' h)).ks hM.hk hsf)
  have ST := Lib.hid (fun w' (h : w.grownBy w' (some g)) => hst s n w' hs hn (KPF.out w' h))
  have DO := Lib.hid (fun b (hb : b < 2 ^ 128) w' (h : w.grownBy w' (some g)) => hD b hb w' (KPF.out w' h).q)
  obtain ⟨t0, ht0⟩ : ∃ t0, iv s n = t0 := ⟨_, rfl⟩
  rw [ht0] at ST hiv ⊢
  clear hM hst hS hD hsf hv hm ht0
  go_enter Tryz.func111, Tryz.ntmps111
  go_upto_region 0 with fail
  go_cut [6] from 8 to 22 (fun q wx => ∃ ab, q = .pointer (some ⟨ab, 0, none⟩) ∧ RZ g n F0 [(ab, t0)] w wx)
  case first =>
    refine Step.begin_ (S := fun w' => RS g [] w w') 17 rfl (by kernel_rfl) Z0.out.drew.rs ?_
    intro hSS
    clear hSS
    have Z1 := Lib.hid Z0.out.drew
    clear Z0
    refine Step.t_move (i := 0) rfl rfl (by kernel_rfl) (by kernel_rfl) (by kernel_rfl) Z1.out.rs _ rfl (.pointer (some ⟨cb, 0, none⟩)) rfl ?_
    simp only [Act.put, List.setIfInBounds_toArray, List.set_cons_zero, List.set_cons_succ]
    refine Step.t_move (i := 7) rfl rfl (by kernel_rfl) (by kernel_rfl) (by kernel_rfl) Z1.out.rs _ rfl (.pointer (some ⟨cb, 0, none⟩)) rfl ?_
    simp only [Act.put, List.setIfInBounds_toArray, List.set_cons_zero, List.set_cons_succ]
    refine Step.t_move (i := 11) rfl rfl (by kernel_rfl) (by kernel_rfl) (by kernel_rfl) Z1.out.rs _ rfl (.int .u64 s) rfl ?_
    simp only [Act.put, List.setIfInBounds_toArray, List.set_cons_zero, List.set_cons_succ]
    refine Step.t_move (i := 12) rfl rfl (by kernel_rfl) (by kernel_rfl) (by kernel_rfl) Z1.out.rs _ rfl (.slice (some ⟨g, 0, none⟩) n cap) rfl ?_
    simp only [Act.put, List.setIfInBounds_toArray, List.set_cons_zero, List.set_cons_succ]
    refine Step.t_val (i := 1) rfl rfl (by kernel_rfl) (by kernel_rfl) (by kernel_rfl) Z1.out.rs (.pointer (some ⟨cb, 0, none⟩)) (fun w' _ => by rfl) ?_
    simp only [Act.put, List.setIfInBounds_toArray, List.set_cons_zero, List.set_cons_succ]
    refine Step.t_val (i := 8) rfl rfl (by kernel_rfl) (by kernel_rfl) (by kernel_rfl) Z1.out.rs (.pointer (some ⟨cb, 0, none⟩)) (fun w' _ => by rfl) ?_
    simp only [Act.put, List.setIfInBounds_toArray, List.set_cons_zero, List.set_cons_succ]
    refine Step.t_val (i := 13) rfl rfl (by kernel_rfl) (by kernel_rfl) (by kernel_rfl) Z1.out.rs (.int .i64 n) (fun w' _ => by unfold execOp; go_simp) ?_
    simp only [Act.put, List.setIfInBounds_toArray, List.set_cons_zero, List.set_cons_succ]
    refine Tree.t_field (i := 2) rfl rfl (by kernel_rfl) (by kernel_rfl) (by kernel_rfl) Z1.out.rs _ _ _ rfl (cb) (0) rfl Tryz.underlying80 rfl (sz := 1) (by kernel_rfl) (by decide) (1) rfl ?_
    simp only [Act.put, List.setIfInBounds_toArray, List.set_cons_zero, List.set_cons_succ]
    refine Tree.t_field (i := 9) rfl rfl (by kernel_rfl) (by kernel_rfl) (by kernel_rfl) Z1.out.rs _ _ _ rfl (cb) (0) rfl Tryz.underlying80 rfl (sz := 1) (by kernel_rfl) (by decide) (0) rfl ?_
    simp only [Act.put, List.setIfInBounds_toArray, List.set_cons_zero, List.set_cons_succ]
    refine Tree.t_load1 (i := 3) rfl rfl (by kernel_rfl) (by kernel_rfl) (by kernel_rfl) Z1.out.rs _ _ rfl (cb) (1) rfl (.pointer (some ⟨gk, k * 7, none⟩)) (fun w' h => C1.out w' h.gb) Tryz.underlying77 rfl ?_
    simp only [Act.put, List.setIfInBounds_toArray, List.set_cons_zero, List.set_cons_succ]
    refine Tree.t_load1 (i := 10) rfl rfl (by kernel_rfl) (by kernel_rfl) (by kernel_rfl) Z1.out.rs _ _ rfl (cb) (0) rfl (.pointer (some ⟨xb, 0, none⟩)) (fun w' h => C0.out w' h.gb) Tryz.underlying76 rfl ?_
    simp only [Act.put, List.setIfInBounds_toArray, List.set_cons_zero, List.set_cons_succ]
    refine Step.t_val (i := 4) rfl rfl (by kernel_rfl) (by kernel_rfl) (by kernel_rfl) Z1.out.rs (.pointer (some ⟨gk, k * 7, none⟩)) (fun w' _ => by rfl) ?_
    simp only [Act.put, List.setIfInBounds_toArray, List.set_cons_zero, List.set_cons_succ]
    refine Tree.t_field (i := 5) rfl rfl (by kernel_rfl) (by kernel_rfl) (by kernel_rfl) Z1.out.rs _ _ _ rfl (gk) (k * 7) rfl Tryz.underlying93 rfl (sz := 1) (by kernel_rfl) (by decide) (k * 7 + 3) rfl ?_
    simp only [Act.put, List.setIfInBounds_toArray, List.set_cons_zero, List.set_cons_succ]
    refine Tree.t_load1 (i := 6) rfl rfl (by kernel_rfl) (by kernel_rfl) (by kernel_rfl) Z1.out.rs _ _ rfl (gk) (k * 7 + 3) rfl (fv sf) (fun w' h => CK.out w' h.gb) Tryz.underlying89 rfl ?_
    simp only [Act.put, List.setIfInBounds_toArray, List.set_cons_zero, List.set_cons_succ]
    refine Step.t_two (i := 14) (j := 15) rfl rfl rfl rfl (by kernel_rfl) ?_ ?_
    · refine Step.w_callv _ _ _ rfl sf [] rfl q1 q2 q3 [.pointer (some ⟨xb, 0, none⟩), .int .u64 s, .int .i64 n] rfl (ST.out _ Z1.out.rs.gb) ?_
      rintro e w2 ⟨rfl, hb⟩
      have Z3 := Lib.hid (Z1.out.bel hb)
      clear hb Z1
      refine ⟨_, rfl, Z3.out.rs, ?_⟩
      simp only [Act.put, List.setIfInBounds_toArray, List.set_cons_zero, List.set_cons_succ]
      refine Step.t_one (i := 15) rfl rfl (by kernel_rfl) ?_
      refine Tw.w_newarr 27 rfl .u8 16 RS.z16 ?_
      intro w4 ha hg2 _
      obtain ⟨ab, hab⟩ : ∃ ab, w2.heap.size = ab := ⟨_, rfl⟩
      rw [hab] at ha ⊢
      have Z5 := Lib.hid (Z3.out.new hab ha hg2)
      clear ha hg2 hab Z3
      refine ⟨Z5.out.rs.tail, ?_⟩
      simp only [Act.put, List.setIfInBounds_toArray, List.set_cons_zero, List.set_cons_succ]
      refine Step.t_one (i := 16) rfl rfl (by kernel_rfl) ?_
      refine RS.w_store 27 _ _ rfl (ab) rfl rfl (Z5.out.rs.own (ab, 0) (.head _)).1 Field.info16 ?_
      intro w6 ha hg2 _
      have Z7 := Lib.hid (Z5.out.store0 (y := t0) ha hg2)
      clear ha hg2 Z5
      refine ⟨Z7.out.rs.tail, ?_⟩
      simp only [Act.put]
      refine Step.t_end (by kernel_rfl) ?_
      go_wp2
      go_meet
      case rel => exact ⟨ab, rfl, Z7.out⟩
    · refine Tw.w_newarr 27 rfl .u8 16 RS.z16 ?_
      intro w2 ha hg2 _
      obtain ⟨ab, hab⟩ : ∃ ab, w.drew.heap.size = ab := ⟨_, rfl⟩
      rw [hab] at ha ⊢
      have Z3 := Lib.hid (Z1.out.new hab ha hg2)
      clear ha hg2 hab Z1
      refine ⟨Z3.out.rs.tail, ?_⟩
      simp only [Act.put, List.setIfInBounds_toArray, List.set_cons_zero, List.set_cons_succ]
      refine Step.t_one (i := 14) rfl rfl (by kernel_rfl) ?_
      refine Step.w_callv _ _ _ rfl sf [] rfl q1 q2 q3 [.pointer (some ⟨xb, 0, none⟩), .int .u64 s, .int .i64 n] rfl (ST.out _ Z3.out.rs.gb) ?_
      rintro e w4 ⟨rfl, hb⟩
      have Z5 := Lib.hid (Z3.out.bel hb)
      clear hb Z3
      refine ⟨_, rfl, Z5.out.rs.tail, ?_⟩
      simp only [Act.put, List.setIfInBounds_toArray, List.set_cons_zero, List.set_cons_succ]
      refine Step.t_one (i := 16) rfl rfl (by kernel_rfl) ?_
      refine RS.w_store 27 _ _ rfl (ab) rfl rfl (Z5.out.rs.own (ab, 0) (.head _)).1 Field.info16 ?_
      intro w6 ha hg2 _
      have Z7 := Lib.hid (Z5.out.store0 (y := t0) ha hg2)
      clear ha hg2 Z5
      refine ⟨Z7.out.rs.tail, ?_⟩
      simp only [Act.put]
      refine Step.t_end (by kernel_rfl) ?_
      go_wp2
      go_meet
      case rel => exact ⟨ab, rfl, Z7.out⟩
  obtain ⟨ab, rfl, hz⟩ := hcut
  have Z1 := Lib.hid hz
  clear hz Z0 ST C1 CK
  go_upto_region 1 with fail
  refine wp_region_lit ?_
  refine Step.p_move rfl _ rfl (.slice (some ⟨g, 0, none⟩) n cap) rfl ?_
  simp only [Act.put, List.setIfInBounds_toArray, List.set_cons_zero, List.set_cons_succ]
  refine Step.p_len rfl _ _ 5 rfl ((some ⟨g, 0, none⟩)) (n) (cap) rfl Tryz.underlying22 ?_
  simp only [Act.put, List.setIfInBounds_toArray, List.set_cons_zero, List.set_cons_succ]
  refine Step.p_val rfl (.int .i64 (m : Nat)) (by unfold execOp; have := HM.out; go_simp; first | exact IntWalk.i64_in _ (by omega) | omega | (rw [HM.out]; exact IntWalk.i64_in _ (by omega))) ?_
  simp only [Act.put, List.setIfInBounds_toArray, List.set_cons_zero, List.set_cons_succ]
  refine Step.p_move rfl _ rfl (.int .i64 0) rfl ?_
  simp only [Act.put, List.setIfInBounds_toArray, List.set_cons_zero, List.set_cons_succ]
  refine wpList_nil ?_
  go_wp2
  go_loopw [26, 7] (fun i _ wr => ∃ k2 : Nat, k2 ≤ m ∧ i = .int .i64 k2 ∧ RZ g n (blkF (fun j _ => cbcL E t0 F0 (j + 1)) F0 k2) [(ab, cbcL E t0 F0 k2)] w wr) (fun i _ _ => m - (Lib.intOf i).toNat)
  case atStart => exact ⟨0, by omega, rfl, Z1.out.congr fun i _ => (blkF_zero _ _ i).symm⟩
  case round =>
    obtain ⟨k2, hk, rfl, hz⟩ := hrel
    have Z3 := Lib.hid hz
    clear hz Z1
    by_cases hlt : k2 < m
    · skip
      have LK : blkN F0 k2 ^^^ cbcL E t0 F0 k2 < 2 ^ 128 := Nat.xor_lt_two_pow (blkN_lt hF k2) (by cases k2 with | zero => exact hiv | succ j => exact hE _)
      have hk16 : 16 * k2 + 16 ≤ n := by have := HMR.out; omega
      have GTk := Lib.hid (fun w' hS => GT.out (blkF (fun j _ => cbcL E t0 F0 (j + 1)) F0 k2) (blkF_lt hF k2) k2 hk16 w' hS)
      rw [blkF_blk] at GTk
      go_upto_region 3 with fail
      refine wp_region_lit ?_
      refine Step.p_move rfl _ rfl (.int .i64 k2) rfl ?_
      simp only [Act.put, List.setIfInBounds_toArray, List.set_cons_zero, List.set_cons_succ]
      refine Step.p_assign rfl _ rfl (.int .i64 k2) rfl ?_
      simp only [Act.put, List.setIfInBounds_toArray, List.set_cons_zero, List.set_cons_succ]
      refine wpList_nil ?_
      go_upto_region 4 with fail
      refine Reg.wp_region_tail (C := fun w' => RZ g n (blkF (fun j _ => cbcL E t0 F0 (j + 1)) F0 k2) [(ab, cbcL E t0 F0 k2)] w w') (by kernel_rfl) (by kernel_rfl) Z3.out.drew ?_
      simp only [Reg.idleLast, Reg.lastOf, Reg.idle]
      refine Step.q_move rfl _ rfl (.pointer (some ⟨cb, 0, none⟩)) rfl ?_
      simp only [Act.put, List.setIfInBounds_toArray, List.set_cons_zero, List.set_cons_succ]
      refine Step.q_pure rfl (.pointer (some ⟨cb, 0, none⟩)) (fun w' => by rfl) ?_
      simp only [Act.put, List.setIfInBounds_toArray, List.set_cons_zero, List.set_cons_succ]
      refine Step.q_field rfl _ _ _ rfl (cb) (0) rfl Tryz.underlying80 rfl (sz := 1) (by kernel_rfl) (by decide) (0) rfl ?_
      simp only [Act.put, List.setIfInBounds_toArray, List.set_cons_zero, List.set_cons_succ]
      refine Step.q_load1 rfl _ _ rfl (cb) (0) rfl (.pointer (some ⟨xb, 0, none⟩)) (fun w' h => C0.out w' h.rs.gb) Tryz.underlying76 rfl ?_
      simp only [Act.put, List.setIfInBounds_toArray, List.set_cons_zero, List.set_cons_succ]
      refine Step.q_pure rfl (.pointer (some ⟨xb, 0, none⟩)) (fun w' => by rfl) ?_
      simp only [Act.put, List.setIfInBounds_toArray, List.set_cons_zero, List.set_cons_succ]
      refine Step.q_field rfl _ _ _ rfl (xb) (0) rfl Tryz.underlying96 rfl (sz := 1) (by kernel_rfl) (by decide) (2) rfl ?_
      simp only [Act.put, List.setIfInBounds_toArray, List.set_cons_zero, List.set_cons_succ]
      refine Step.q_load1 rfl _ _ rfl (xb) (2) rfl (v) (fun w' h => C2.out w' h.rs.gb) Tryz.underlying94 rfl ?_
      simp only [Act.put, List.setIfInBounds_toArray, List.set_cons_zero, List.set_cons_succ]
      refine Step.q_move rfl _ rfl (.slice (some ⟨g, 0, none⟩) n cap) rfl ?_
      simp only [Act.put, List.setIfInBounds_toArray, List.set_cons_zero, List.set_cons_succ]
      refine Step.q_move rfl _ rfl (.int .i64 k2) rfl ?_
      simp only [Act.put, List.setIfInBounds_toArray, List.set_cons_zero, List.set_cons_succ]
      refine Step.q_call rfl 107 _ _ rfl Tryz.func107 (by kernel_rfl) rfl (B16 (blkN F0 k2)) [.slice (some ⟨g, 0, none⟩) n cap, .int .i64 k2] rfl (fun w' hw' => (GTk.out _ hw'.sec).mono fun e w2 h => ⟨h.1, hw'.bel h.2⟩) ?_
      simp only [Act.put, List.setIfInBounds_toArray, List.set_cons_zero, List.set_cons_succ]
      refine Step.q_load rfl _ _ rfl (ab) rfl (fun w' h => (h.rs.own (ab, cbcL E t0 F0 k2) (.head _)).1) Tryz.underlying27 rfl Field.info16 ?_
      simp only [Act.put, List.setIfInBounds_toArray, List.set_cons_zero, List.set_cons_succ]
      refine Step.q_call rfl 55 _ _ rfl Tryz.func55 (by kernel_rfl) rfl (B16 (blkN F0 k2 ^^^ cbcL E t0 F0 k2)) [B16 (blkN F0 k2), B16 (cbcL E t0 F0 k2)] rfl (fun w' hw' => (xor_num _ _ _).mono fun e w2 h => ⟨h.1, hw'.bel h.2⟩) ?_
      simp only [Act.put, List.setIfInBounds_toArray, List.set_cons_zero, List.set_cons_succ]
      refine Step.q_call rfl 106 _ _ rfl Tryz.func106 (by kernel_rfl) rfl (B16 (cbcL E t0 F0 (k2 + 1))) [v, B16 (blkN F0 k2 ^^^ cbcL E t0 F0 k2)] rfl (fun w' hw' => (DO.out _ LK _ hw'.rs.gb).mono fun e w2 h => ⟨h.1, hw'.bel h.2⟩) ?_
      simp only [Act.put, List.setIfInBounds_toArray, List.set_cons_zero, List.set_cons_succ]
      refine Reg.wpQuiet_idle rfl rfl rfl ?_
      intro w91 hsq
      have Z92 := Lib.hid hsq
      clear hsq Z3
      refine Step.p_store 27 _ _ rfl (ab) rfl rfl (Z92.out.rs.own (ab, cbcL E t0 F0 k2) (.head _)).1 Field.info16 rfl ?_
      intro w93 ha hg2 _
      have Z94 := Lib.hid (Z92.out.store0 (y := cbcL E t0 F0 (k2 + 1)) ha hg2)
      clear ha hg2 Z92
      simp only [Act.put]
      refine wpList_nil ?_
      go_upto_region 5 with fail
      refine wp_region_lit ?_
      refine Step.p_move rfl _ rfl (.slice (some ⟨g, 0, none⟩) n cap) rfl ?_
      simp only [Act.put, List.setIfInBounds_toArray, List.set_cons_zero, List.set_cons_succ]
      refine Step.p_move rfl _ rfl (.int .i64 k2) rfl ?_
      simp only [Act.put, List.setIfInBounds_toArray, List.set_cons_zero, List.set_cons_succ]
      refine Step.p_load rfl _ _ rfl (ab) rfl (Z94.out.rs.own (ab, cbcL E t0 F0 (k2 + 1)) (.head _)).1 Tryz.underlying27 rfl Field.info16 ?_
      simp only [Act.put, List.setIfInBounds_toArray, List.set_cons_zero, List.set_cons_succ]
      refine Step.p_wp rfl (Step.w_callx 105 _ _ rfl Tryz.func105 (by kernel_rfl) rfl [.slice (some ⟨g, 0, none⟩) n cap, .int .i64 k2, B16 (cbcL E t0 F0 (k2 + 1))] rfl (PU.out (blkF (fun j _ => cbcL E t0 F0 (j + 1)) F0 k2) k2 _ hk16 _ Z94.out.sec) ?_)
      rintro e w95 ⟨rfl, hsec, hgr⟩
      have Z96 := Lib.hid (Z94.out.put hgr (hsec.congr fun i _ => blkF_put (fun j _ => cbcL E t0 F0 (j + 1)) F0 k2 i))
      clear hsec hgr Z94
      refine ⟨_, rfl, ?_⟩
      simp only [Act.put, List.setIfInBounds_toArray, List.set_cons_zero, List.set_cons_succ]
      refine wpList_nil ?_
      go_wp2
      go_roundw
      case rel => exact ⟨k2 + 1, by omega, by go_num, Z96.out⟩
      case measure => simp [Lib.intOf]; omega
    · obtain rfl : k2 = m := by omega
      go_wp2
      go_end0
      exact ⟨rfl, Z3.out.sec, Z3.out.rs.gb⟩
end Go.Proofs.YtmifebcaifbmoaaGreatDoor.G
end
