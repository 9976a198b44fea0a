/- Parts of the proof of TweakBlocks. Xts: tweak: (*Cipher).tweaked: XTS of a sector. -/
import Derived.Test.YtmifebcaifbmoaaGreatDoorL00
import Derived.Test.YtmifebcaifbmoaaGreatDoorL25
/- Xts -/
section
namespace Go.Proofs.YtmifebcaifbmoaaGreatDoor.G
open Go.RowKit Go.Lib Go.Proofs.YtmifebcaifbmoaaGreatDoor.Blk Go.Proofs.YtmifebcaifbmoaaGreatDoor.Poly Go.Proofs.YtmifebcaifbmoaaGreatDoor.Field Go.Proofs.YtmifebcaifbmoaaGreatDoor.Tab Go.Proofs.YtmifebcaifbmoaaGreatDoor.Tw Go.Proofs.YtmifebcaifbmoaaGreatDoor.RS

/-- a sector whose last bytes are written over -/
theorem xts_cut {E : Nat → Nat} {back : Bool} {t n : Nat} {f : Nat → Nat} (hr : n % 16 ≠ 0) (i : Nat) (_hi : i < n) (h16 : 16 ≤ n) :
    putF (fun i => if 16 * (n / 16) ≤ i then byt (xtsQ E back t (n / 16) f) (i - 16 * (n / 16)) else blkF (xtsB E t) f (n / 16 - 1) i) (n / 16 - 1) (msk E (xts2 back t (n / 16)) (xtsL E back t (n / 16) (n % 16) f)) i = xtsF E back t n f i := by
  unfold putF xtsF
  rw [if_neg hr]
  by_cases h1 : i < 16 * (n / 16 - 1)
  · rw [if_neg (by omega), if_pos h1]
    exact if_neg (by omega)
  · rw [if_neg h1]
    by_cases h2 : i < 16 * (n / 16)
    · rw [if_pos (by omega), if_pos h2]
    · rw [if_neg (by omega), if_neg h2]
      exact if_pos (by omega)

set_option maxRecDepth 100000 in
set_option maxHeartbeats 16000000 in
theorem tweaked_any {k cb xb gk : Nat} {E0 D0 A : Nat → Nat} {fl wh : Nat → Nat} {cs : Array Value} {iv : Nat → Nat → Nat} {sf : FuncId} (hsf : (kindL 0 k)[3]? = some (fv sf)) (back : Bool) (f : FuncId) (hf : FnOk f) (E : Nat → Nat) (p : Nat) (s n g cap : Nat) (hs : s < 2 ^ 64) (h16 : 16 ≤ n) (hn : n ≤ 4096) (hnc : n ≤ cap) (hcm : cap ≤ 9223372036854775807)
    (F0 : Nat → Nat) (hF : ∀ i, F0 i < 256) (hiv : iv s n < 2 ^ 128) (hA : A (iv s n) < 2 ^ 128) (w : World) (hM : Md k cb xb gk E0 D0 A true fl wh cs iv w) {v : Value} (hv : cs[2]? = some v) (hD : DoK f v E w) (hp : w.cell? ⟨p, 0, none⟩ = some (.func (.func f) #[] #[])) (hS : Sec w g n F0) (hg : g ≠ 2) :
    Calls Tryz.prog 132 #[.pointer (some ⟨cb, 0, none⟩), .int .u64 s, .slice (some ⟨g, 0, none⟩) n cap, .func (.func 167) #[] #[.pointer (some ⟨p, 0, none⟩)], .bool back] w fun e w' => e = .returned (.tuple #[]) ∧ Sec w' g n (xtsF E back (A (iv s n)) n F0) ∧ w.grownBy w' (some g) := by
  obtain ⟨⟨sfn, q1, q2, q3⟩, hst⟩ := hM.st sf hsf
  obtain ⟨ffn, p1, p2, p3⟩ := hf
  obtain ⟨z, hz, hza⟩ := hM.ky.aside rfl
  have KPF := Lib.hid (fun w' (h : w.grownBy w' (some g)) => Kp.of_gb hS (by omega) hg h)
  have C0 := Lib.hid (fun w' (h : w.grownBy w' (some g)) => (hM.rd.kp (KPF.out w' h)).c0)
  have C1 := Lib.hid (fun w' (h : w.grownBy w' (some g)) => (hM.rd.kp (KPF.out w' h)).c1)
  have CK := Lib.hid (fun w' (h : w.grownBy w' (some g)) => (hM.rd.kp (KPF.out w' h)).ks hM.hk hsf)
  have C2 := Lib.hid (fun w' (h : w.grownBy w' (some g)) => (hM.rd.kp (KPF.out w' h)).cx hv)
  have C3 := Lib.hid (fun w' (h : w.grownBy w' (some g)) => (hM.rd.kp (KPF.out w' h)).cx hz)
  have ST := Lib.hid (fun w' (h : w.grownBy w' (some g)) => hst s n w' hs hn (KPF.out w' h))
  have AS := Lib.hid (fun w' (h : w.grownBy w' (some g)) => hza (iv s n) hiv w' (KPF.out w' h).q)
  have DO := Lib.hid (fun b t (hb : b < 2 ^ 128) (ht : t < 2 ^ 128) w' (h : w.grownBy w' (some g)) => between1_any f p1 p2 p3 v E b t p hb ht w' (hD.at_ (KPF.out w' h).q) ((KPF.out w' h).cell0 hp (fun _ e => by cases e)))
  have GT := Lib.hid (fun (F : Nat → Nat) (hF : ∀ i, F i < 256) j (hj : 16 * j + 16 ≤ n) w' hS => get_any g n cap j F hF hj hnc hcm w' hS)
  have PU := Lib.hid (fun (F : Nat → Nat) j x (hj : 16 * j + 16 ≤ n) w' hS => put_any g n cap j x F hj hnc hcm w' hS)
  have Z0 := Lib.hid (RZ.start hS)
  have hgl := hS.lt
  have DK := Lib.hid (fun j => dblK_lt hA j)
  obtain ⟨t0, ht0⟩ : ∃ t0, A (iv s n) = t0 := ⟨_, rfl⟩
  rw [ht0] at AS DK ⊢
  obtain ⟨m, hm⟩ : ∃ m, n / 16 = m := ⟨_, rfl⟩
  obtain ⟨r, hr⟩ : ∃ r, n % 16 = r := ⟨_, rfl⟩
  have HM : Hid ((n : Int).tdiv 16 = (m : Nat)) := Lib.hid (by rw [← hm]; rfl)
  have HR : Hid ((n : Int).tmod 16 = (r : Nat)) := Lib.hid (by rw [← hr]; rfl)
  obtain ⟨wl, hwl⟩ : ∃ wl, (if r = 0 then m else m - 1) = wl := ⟨_, rfl⟩
  have hb1 : 1 ≤ m ∧ m ≤ 256 ∧ r < 16 ∧ wl ≤ m ∧ m ≤ wl + 1 := by split at hwl <;> omega
  have HMR : Hid (n = 16 * m + r ∧ n / 16 = m ∧ n % 16 = r ∧ (r = 0 → wl = m) ∧ (0 < r → wl + 1 = m)) := Lib.hid (by split at hwl <;> omega)
  clear hM hst hza hS hD hp hsf hv hz hiv hA ht0 hm hr hwl
  go_enter Tryz.func132, Tryz.ntmps132
  go_upto_region 0 with fail
  go_cut [10] from 20 to 42 (fun q wx => ∃ ab, q = .pointer (some ⟨ab, 0, none⟩) ∧ RZ g n F0 [(ab, t0)] w wx)
  case first =>
    refine Step.begin_ (S := fun w' => RS g [] w w') 25 rfl (by kernel_rfl) Z0.out.drew.rs ?_
    intro hSS
    clear hSS
    have Z1 := Lib.hid Z0.out.drew
    clear Z0
    refine Step.t_move (i := 0) rfl rfl (by kernel_rfl) (by kernel_rfl) (by kernel_rfl) Z1.out.rs _ rfl (.pointer (some ⟨cb, 0, none⟩)) rfl ?_
    simp only [Act.put, sA9, sB9, sC9]
    refine Step.t_move (i := 7) rfl rfl (by kernel_rfl) (by kernel_rfl) (by kernel_rfl) Z1.out.rs _ rfl (.pointer (some ⟨cb, 0, none⟩)) rfl ?_
    simp only [Act.put, sA9, sB9, sC9]
    refine Step.t_move (i := 14) rfl rfl (by kernel_rfl) (by kernel_rfl) (by kernel_rfl) Z1.out.rs _ rfl (.pointer (some ⟨cb, 0, none⟩)) rfl ?_
    simp only [Act.put, sA9, sB9, sC9]
    refine Step.t_move (i := 18) rfl rfl (by kernel_rfl) (by kernel_rfl) (by kernel_rfl) Z1.out.rs _ rfl (.int .u64 s) rfl ?_
    simp only [Act.put, sA9, sB9, sC9]
    refine Step.t_move (i := 19) rfl rfl (by kernel_rfl) (by kernel_rfl) (by kernel_rfl) Z1.out.rs _ rfl (.slice (some ⟨g, 0, none⟩) n cap) rfl ?_
    simp only [Act.put, sA9, sB9, sC9]
    refine Step.t_val (i := 1) rfl rfl (by kernel_rfl) (by kernel_rfl) (by kernel_rfl) Z1.out.rs (.pointer (some ⟨cb, 0, none⟩)) (fun w' _ => by rfl) ?_
    simp only [Act.put, sA9, sB9, sC9]
    refine Step.t_val (i := 8) rfl rfl (by kernel_rfl) (by kernel_rfl) (by kernel_rfl) Z1.out.rs (.pointer (some ⟨cb, 0, none⟩)) (fun w' _ => by rfl) ?_
    simp only [Act.put, sA9, sB9, sC9]
    refine Step.t_val (i := 15) rfl rfl (by kernel_rfl) (by kernel_rfl) (by kernel_rfl) Z1.out.rs (.pointer (some ⟨cb, 0, none⟩)) (fun w' _ => by rfl) ?_
    simp only [Act.put, sA9, sB9, sC9]
    refine Step.t_val (i := 20) rfl rfl (by kernel_rfl) (by kernel_rfl) (by kernel_rfl) Z1.out.rs (.int .i64 n) (fun w' _ => by unfold execOp; go_simp) ?_
    simp only [Act.put, sA9, sB9, sC9]
    refine Tree.t_field (i := 2) rfl rfl (by kernel_rfl) (by kernel_rfl) (by kernel_rfl) Z1.out.rs _ _ _ rfl (cb) (0) rfl Tryz.underlying80 rfl (sz := 1) (by kernel_rfl) (by decide) (0) rfl ?_
    simp only [Act.put, sA9, sB9, sC9]
    refine Tree.t_field (i := 9) rfl rfl (by kernel_rfl) (by kernel_rfl) (by kernel_rfl) Z1.out.rs _ _ _ rfl (cb) (0) rfl Tryz.underlying80 rfl (sz := 1) (by kernel_rfl) (by decide) (1) rfl ?_
    simp only [Act.put, sA9, sB9, sC9]
    refine Tree.t_field (i := 16) rfl rfl (by kernel_rfl) (by kernel_rfl) (by kernel_rfl) Z1.out.rs _ _ _ rfl (cb) (0) rfl Tryz.underlying80 rfl (sz := 1) (by kernel_rfl) (by decide) (0) rfl ?_
    simp only [Act.put, sA9, sB9, sC9]
    refine Tree.t_load1 (i := 3) rfl rfl (by kernel_rfl) (by kernel_rfl) (by kernel_rfl) Z1.out.rs _ _ rfl (cb) (0) rfl (.pointer (some ⟨xb, 0, none⟩)) (fun w' h => C0.out w' h.gb) Tryz.underlying76 rfl ?_
    simp only [Act.put, sA9, sB9, sC9]
    refine Tree.t_load1 (i := 10) rfl rfl (by kernel_rfl) (by kernel_rfl) (by kernel_rfl) Z1.out.rs _ _ rfl (cb) (1) rfl (.pointer (some ⟨gk, k * 7, none⟩)) (fun w' h => C1.out w' h.gb) Tryz.underlying77 rfl ?_
    simp only [Act.put, sA9, sB9, sC9]
    refine Tree.t_load1 (i := 17) rfl rfl (by kernel_rfl) (by kernel_rfl) (by kernel_rfl) Z1.out.rs _ _ rfl (cb) (0) rfl (.pointer (some ⟨xb, 0, none⟩)) (fun w' h => C0.out w' h.gb) Tryz.underlying76 rfl ?_
    simp only [Act.put, sA9, sB9, sC9]
    refine Step.t_val (i := 4) rfl rfl (by kernel_rfl) (by kernel_rfl) (by kernel_rfl) Z1.out.rs (.pointer (some ⟨xb, 0, none⟩)) (fun w' _ => by rfl) ?_
    simp only [Act.put, sA9, sB9, sC9]
    refine Step.t_val (i := 11) rfl rfl (by kernel_rfl) (by kernel_rfl) (by kernel_rfl) Z1.out.rs (.pointer (some ⟨gk, k * 7, none⟩)) (fun w' _ => by rfl) ?_
    simp only [Act.put, sA9, sB9, sC9]
    refine Tree.t_field (i := 5) rfl rfl (by kernel_rfl) (by kernel_rfl) (by kernel_rfl) Z1.out.rs _ _ _ rfl (xb) (0) rfl Tryz.underlying96 rfl (sz := 1) (by kernel_rfl) (by decide) (3) rfl ?_
    simp only [Act.put, sA9, sB9, sC9]
    refine Tree.t_field (i := 12) rfl rfl (by kernel_rfl) (by kernel_rfl) (by kernel_rfl) Z1.out.rs _ _ _ rfl (gk) (k * 7) rfl Tryz.underlying93 rfl (sz := 1) (by kernel_rfl) (by decide) (k * 7 + 3) rfl ?_
    simp only [Act.put, sA9, sB9, sC9]
    refine Tree.t_load1 (i := 6) rfl rfl (by kernel_rfl) (by kernel_rfl) (by kernel_rfl) Z1.out.rs _ _ rfl (xb) (3) rfl (z) (fun w' h => C3.out w' h.gb) Tryz.underlying94 rfl ?_
    simp only [Act.put, sA9, sB9, sC9]
    refine Tree.t_load1 (i := 13) rfl rfl (by kernel_rfl) (by kernel_rfl) (by kernel_rfl) Z1.out.rs _ _ rfl (gk) (k * 7 + 3) rfl (fv sf) (fun w' h => CK.out w' h.gb) Tryz.underlying89 rfl ?_
    simp only [Act.put, sA9, sB9, sC9]
    refine Step.t_two (i := 21) (j := 23) rfl rfl rfl rfl (by kernel_rfl) ?_ ?_
    · refine Step.w_callv _ _ _ rfl sf [] rfl q1 q2 q3 [.pointer (some ⟨xb, 0, none⟩), .int .u64 s, .int .i64 n] rfl (ST.out _ Z1.out.rs.gb) ?_
      rintro e w2 ⟨rfl, hb⟩
      have Z3 := Lib.hid (Z1.out.bel hb)
      clear hb Z1
      refine ⟨_, rfl, Z3.out.rs, ?_⟩
      simp only [Act.put, sA9, sB9, sC9]
      refine Step.t_two (i := 22) (j := 23) rfl rfl rfl rfl (by kernel_rfl) ?_ ?_
      · refine Step.w_callx 106 _ _ rfl Tryz.func106 (by kernel_rfl) rfl [z, B16 (iv s n)] rfl (AS.out _ Z3.out.rs.gb) ?_
        rintro e w4 ⟨rfl, hb⟩
        have Z5 := Lib.hid (Z3.out.bel hb)
        clear hb Z3
        refine ⟨_, rfl, Z5.out.rs, ?_⟩
        simp only [Act.put, sA9, sB9, sC9]
        refine Step.t_one (i := 23) rfl rfl (by kernel_rfl) ?_
        refine Tw.w_newarr 27 rfl .u8 16 RS.z16 ?_
        intro w6 ha hg2 _
        obtain ⟨ab, hab⟩ : ∃ ab, w4.heap.size = ab := ⟨_, rfl⟩
        rw [hab] at ha ⊢
        have Z7 := Lib.hid (Z5.out.new hab ha hg2)
        clear ha hg2 hab Z5
        refine ⟨Z7.out.rs.tail, ?_⟩
        simp only [Act.put, sA9, sB9, sC9]
        refine Step.t_one (i := 24) rfl rfl (by kernel_rfl) ?_
        refine RS.w_store 27 _ _ rfl (ab) rfl rfl (Z7.out.rs.own (ab, 0) (.head _)).1 Field.info16 ?_
        intro w8 ha hg2 _
        have Z9 := Lib.hid (Z7.out.store0 (y := t0) ha hg2)
        clear ha hg2 Z7
        refine ⟨Z9.out.rs.tail, ?_⟩
        simp only [Act.put]
        refine Step.t_end (by kernel_rfl) ?_
        go_wp2
        go_meet
        case rel => exact ⟨ab, rfl, Z9.out⟩
      · refine Tw.w_newarr 27 rfl .u8 16 RS.z16 ?_
        intro w4 ha hg2 _
        obtain ⟨ab, hab⟩ : ∃ ab, w2.heap.size = ab := ⟨_, rfl⟩
        rw [hab] at ha ⊢
        have Z5 := Lib.hid (Z3.out.new hab ha hg2)
        clear ha hg2 hab Z3
        refine ⟨Z5.out.rs.tail, ?_⟩
        simp only [Act.put, sA9, sB9, sC9]
        refine Step.t_one (i := 22) rfl rfl (by kernel_rfl) ?_
        refine Step.w_callx 106 _ _ rfl Tryz.func106 (by kernel_rfl) rfl [z, B16 (iv s n)] rfl (AS.out _ Z5.out.rs.gb) ?_
        rintro e w6 ⟨rfl, hb⟩
        have Z7 := Lib.hid (Z5.out.bel hb)
        clear hb Z5
        refine ⟨_, rfl, Z7.out.rs.tail, ?_⟩
        simp only [Act.put, sA9, sB9, sC9]
        refine Step.t_one (i := 24) rfl rfl (by kernel_rfl) ?_
        refine RS.w_store 27 _ _ rfl (ab) rfl rfl (Z7.out.rs.own (ab, 0) (.head _)).1 Field.info16 ?_
        intro w8 ha hg2 _
        have Z9 := Lib.hid (Z7.out.store0 (y := t0) ha hg2)
        clear ha hg2 Z7
        refine ⟨Z9.out.rs.tail, ?_⟩
        simp only [Act.put]
        refine Step.t_end (by kernel_rfl) ?_
        go_wp2
        go_meet
        case rel => exact ⟨ab, rfl, Z9.out⟩
    · refine Tw.w_newarr 27 rfl .u8 16 RS.z16 ?_
      intro w2 ha hg2 _
      obtain ⟨ab, hab⟩ : ∃ ab, w.drew.heap.size = ab := ⟨_, rfl⟩
      rw [hab] at ha ⊢
      have Z3 := Lib.hid (Z1.out.new hab ha hg2)
      clear ha hg2 hab Z1
      refine ⟨Z3.out.rs.tail, ?_⟩
      simp only [Act.put, sA9, sB9, sC9]
      refine Step.t_one (i := 21) rfl rfl (by kernel_rfl) ?_
      refine Step.w_callv _ _ _ rfl sf [] rfl q1 q2 q3 [.pointer (some ⟨xb, 0, none⟩), .int .u64 s, .int .i64 n] rfl (ST.out _ Z3.out.rs.gb) ?_
      rintro e w4 ⟨rfl, hb⟩
      have Z5 := Lib.hid (Z3.out.bel hb)
      clear hb Z3
      refine ⟨_, rfl, Z5.out.rs.tail, ?_⟩
      simp only [Act.put, sA9, sB9, sC9]
      refine Step.t_one (i := 22) rfl rfl (by kernel_rfl) ?_
      refine Step.w_callx 106 _ _ rfl Tryz.func106 (by kernel_rfl) rfl [z, B16 (iv s n)] rfl (AS.out _ Z5.out.rs.gb) ?_
      rintro e w6 ⟨rfl, hb⟩
      have Z7 := Lib.hid (Z5.out.bel hb)
      clear hb Z5
      refine ⟨_, rfl, Z7.out.rs.tail, ?_⟩
      simp only [Act.put, sA9, sB9, sC9]
      refine Step.t_one (i := 24) rfl rfl (by kernel_rfl) ?_
      refine RS.w_store 27 _ _ rfl (ab) rfl rfl (Z7.out.rs.own (ab, 0) (.head _)).1 Field.info16 ?_
      intro w8 ha hg2 _
      have Z9 := Lib.hid (Z7.out.store0 (y := t0) ha hg2)
      clear ha hg2 Z7
      refine ⟨Z9.out.rs.tail, ?_⟩
      simp only [Act.put]
      refine Step.t_end (by kernel_rfl) ?_
      go_wp2
      go_meet
      case rel => exact ⟨ab, rfl, Z9.out⟩
  obtain ⟨ab, rfl, hz⟩ := hcut
  have Z1 := Lib.hid hz
  clear hz Z0 ST AS C1 C3 CK
  go_upto_region 1 with fail
  refine wp_region_lit ?_
  refine Step.p_move rfl _ rfl (.slice (some ⟨g, 0, none⟩) n cap) rfl ?_
  simp only [Act.put, sA9, sB9, sC9]
  refine Step.p_len rfl _ _ 5 rfl ((some ⟨g, 0, none⟩)) (n) (cap) rfl Tryz.underlying22 ?_
  simp only [Act.put, sA9, sB9, sC9]
  refine Step.p_val rfl (.int .i64 (m : Nat)) (by unfold execOp; have := HM.out; go_simp; first | exact IntWalk.i64_in _ (by omega) | omega | (rw [HM.out]; exact IntWalk.i64_in _ (by omega))) ?_
  simp only [Act.put, sA9, sB9, sC9]
  refine Step.p_move rfl _ rfl (.slice (some ⟨g, 0, none⟩) n cap) rfl ?_
  simp only [Act.put, sA9, sB9, sC9]
  refine Step.p_len rfl _ _ 5 rfl ((some ⟨g, 0, none⟩)) (n) (cap) rfl Tryz.underlying22 ?_
  simp only [Act.put, sA9, sB9, sC9]
  refine Step.p_val rfl (.int .i64 (r : Nat)) (by unfold execOp; have := HR.out; go_simp; try first | exact HR.out | rw [HR.out] | omega) ?_
  simp only [Act.put, sA9, sB9, sC9]
  refine Step.p_assign rfl _ rfl (.int .i64 (m : Nat)) rfl ?_
  simp only [Act.put, sA9, sB9, sC9]
  refine Step.p_assign rfl _ rfl (.int .i64 (r : Nat)) rfl ?_
  simp only [Act.put, sA9, sB9, sC9]
  refine wpList_nil ?_
  go_upto_region 2 with fail
  refine wp_region_lit ?_
  refine Step.p_move rfl _ rfl (.int .i64 (m : Nat)) rfl ?_
  simp only [Act.put, sA9, sB9, sC9]
  refine Step.p_assign rfl _ rfl (.int .i64 (m : Nat)) rfl ?_
  simp only [Act.put, sA9, sB9, sC9]
  refine wpList_nil ?_
  go_upto_region 3 with fail
  refine wp_region_lit ?_
  refine Step.p_move rfl _ rfl (.int .i64 (r : Nat)) rfl ?_
  simp only [Act.put, sA9, sB9, sC9]
  refine Step.p_val rfl (.bool (decide (0 < r))) (by unfold execOp; go_simp; try (first | rfl | (by_cases h : 0 < r <;> simp [h] <;> omega))) ?_
  simp only [Act.put, sA9, sB9, sC9]
  refine wpList_nil ?_
  go_upto_if 51 with fail
  go_cut [13] from 50 to 53 (fun q wx => q = .int .i64 (wl : Nat) ∧ RZ g n F0 [(ab, t0)] w wx)
  case first =>
    by_cases hr0 : 0 < r
    · skip
      go_upto_region 4 with fail
      refine wp_region_lit ?_
      refine Step.p_move rfl _ rfl (.int .i64 (m : Nat)) rfl ?_
      simp only [Act.put, sA9, sB9, sC9]
      refine Step.p_val rfl (.int .i64 (wl : Nat)) (by unfold execOp; have := HMR.out; go_simp; try (first | rfl | omega | exact (IntWalk.i64_in _ (by omega)).trans (by omega))) ?_
      simp only [Act.put, sA9, sB9, sC9]
      refine Step.p_assign rfl _ rfl (.int .i64 (wl : Nat)) rfl ?_
      simp only [Act.put, sA9, sB9, sC9]
      refine wpList_nil ?_
      go_wp2
      go_meet
      case rel => exact ⟨rfl, Z1.out⟩
    · have e0 : wl = m := HMR.out.2.2.2.1 (by omega)
      subst e0
      go_wp2
      go_meet
      case rel => exact ⟨rfl, Z1.out⟩
  obtain ⟨rfl, hz⟩ := hcut
  have Z2 := Lib.hid hz
  clear hz Z1
  go_upto_region 5 with fail
  refine wp_region_lit ?_
  refine Step.p_move rfl _ rfl (.int .i64 (wl : Nat)) rfl ?_
  simp only [Act.put, sA9, sB9, sC9]
  refine Step.p_move rfl _ rfl (.int .i64 0) rfl ?_
  simp only [Act.put, sA9, sB9, sC9]
  refine wpList_nil ?_
  go_wp2
  go_loopw [55, 14] (fun i _ wr => ∃ k2 : Nat, k2 ≤ wl ∧ i = .int .i64 k2 ∧ RZ g n (blkF (xtsB E t0) F0 k2) [(ab, dblK t0 k2)] w wr) (fun i _ _ => wl - (RowKit.intOf i).toNat)
  case atStart => exact ⟨0, by omega, rfl, Z2.out.congr fun i _ => (blkF_zero _ _ i).symm⟩
  case round =>
    obtain ⟨k2, hk, rfl, hz⟩ := hrel
    have Z3 := Lib.hid hz
    clear hz Z2
    by_cases hlt : k2 < wl
    · skip
      have hk16 : 16 * k2 + 16 ≤ n := by have := HMR.out; omega
      go_upto_region 7 with fail
      refine wp_region_lit ?_
      refine Step.p_move rfl _ rfl (.int .i64 k2) rfl ?_
      simp only [Act.put, sA9, sB9, sC9]
      refine Step.p_assign rfl _ rfl (.int .i64 k2) rfl ?_
      simp only [Act.put, sA9, sB9, sC9]
      refine wpList_nil ?_
      go_upto_region 8 with fail
      refine Step.begin_ (S := fun w' => RS g [(ab, dblK t0 k2)] w w') 16 rfl (by kernel_rfl) Z3.out.drew.rs ?_
      intro hSS
      clear hSS
      have Z91 := Lib.hid Z3.out.drew
      clear Z3
      refine Step.t_move (i := 0) rfl rfl (by kernel_rfl) (by kernel_rfl) (by kernel_rfl) Z91.out.rs _ rfl (.slice (some ⟨g, 0, none⟩) n cap) rfl ?_
      simp only [Act.put, sA9, sB9, sC9]
      refine Step.t_move (i := 1) rfl rfl (by kernel_rfl) (by kernel_rfl) (by kernel_rfl) Z91.out.rs _ rfl (.int .i64 k2) rfl ?_
      simp only [Act.put, sA9, sB9, sC9]
      refine Step.t_move (i := 2) rfl rfl (by kernel_rfl) (by kernel_rfl) (by kernel_rfl) Z91.out.rs _ rfl (.func (.func 167) #[] #[.pointer (some ⟨p, 0, none⟩)]) rfl ?_
      simp only [Act.put, sA9, sB9, sC9]
      refine Step.t_move (i := 3) rfl rfl (by kernel_rfl) (by kernel_rfl) (by kernel_rfl) Z91.out.rs _ rfl (.pointer (some ⟨cb, 0, none⟩)) rfl ?_
      simp only [Act.put, sA9, sB9, sC9]
      refine Step.t_move (i := 10) rfl rfl (by kernel_rfl) (by kernel_rfl) (by kernel_rfl) Z91.out.rs _ rfl (.slice (some ⟨g, 0, none⟩) n cap) rfl ?_
      simp only [Act.put, sA9, sB9, sC9]
      refine Step.t_move (i := 11) rfl rfl (by kernel_rfl) (by kernel_rfl) (by kernel_rfl) Z91.out.rs _ rfl (.int .i64 k2) rfl ?_
      simp only [Act.put, sA9, sB9, sC9]
      refine Step.t_load (i := 13) rfl rfl (by kernel_rfl) (by kernel_rfl) (by kernel_rfl) Z91.out.rs _ _ rfl (ab) rfl (fun w' h => (h.own (ab, dblK t0 k2) (.head _)).1) Tryz.underlying27 rfl Field.info16 ?_
      simp only [Act.put, sA9, sB9, sC9]
      refine Step.t_val (i := 4) rfl rfl (by kernel_rfl) (by kernel_rfl) (by kernel_rfl) Z91.out.rs (.pointer (some ⟨cb, 0, none⟩)) (fun w' _ => by rfl) ?_
      simp only [Act.put, sA9, sB9, sC9]
      refine Tree.t_field (i := 5) rfl rfl (by kernel_rfl) (by kernel_rfl) (by kernel_rfl) Z91.out.rs _ _ _ rfl (cb) (0) rfl Tryz.underlying80 rfl (sz := 1) (by kernel_rfl) (by decide) (0) rfl ?_
      simp only [Act.put, sA9, sB9, sC9]
      refine Tree.t_load1 (i := 6) rfl rfl (by kernel_rfl) (by kernel_rfl) (by kernel_rfl) Z91.out.rs _ _ rfl (cb) (0) rfl (.pointer (some ⟨xb, 0, none⟩)) (fun w' h => C0.out w' h.gb) Tryz.underlying76 rfl ?_
      simp only [Act.put, sA9, sB9, sC9]
      refine Step.t_val (i := 7) rfl rfl (by kernel_rfl) (by kernel_rfl) (by kernel_rfl) Z91.out.rs (.pointer (some ⟨xb, 0, none⟩)) (fun w' _ => by rfl) ?_
      simp only [Act.put, sA9, sB9, sC9]
      refine Tree.t_field (i := 8) rfl rfl (by kernel_rfl) (by kernel_rfl) (by kernel_rfl) Z91.out.rs _ _ _ rfl (xb) (0) rfl Tryz.underlying96 rfl (sz := 1) (by kernel_rfl) (by decide) (2) rfl ?_
      simp only [Act.put, sA9, sB9, sC9]
      refine Tree.t_load1 (i := 9) rfl rfl (by kernel_rfl) (by kernel_rfl) (by kernel_rfl) Z91.out.rs _ _ rfl (xb) (2) rfl (v) (fun w' h => C2.out w' h.gb) Tryz.underlying94 rfl ?_
      simp only [Act.put, sA9, sB9, sC9]
      refine Step.t_one (i := 12) rfl rfl (by kernel_rfl) ?_
      refine Step.w_callx 107 _ _ rfl Tryz.func107 (by kernel_rfl) rfl [.slice (some ⟨g, 0, none⟩) n cap, .int .i64 k2] rfl (GT.out (blkF (xtsB E t0) F0 k2) (blkF_lt hF k2) k2 hk16 _ Z91.out.sec) ?_
      rintro e w92 ⟨he, hb⟩
      have Z93 := Lib.hid (Z91.out.bel hb)
      rw [blkF_blk] at he
      subst he
      clear hb Z91
      refine ⟨_, rfl, Z93.out.rs, ?_⟩
      simp only [Act.put, sA9, sB9, sC9]
      refine Step.t_one (i := 14) rfl rfl (by kernel_rfl) ?_
      refine Step.w_callv _ _ _ rfl 167 [.pointer (some ⟨p, 0, none⟩)] rfl Tryz.func167 (by kernel_rfl) rfl [v, B16 (blkN F0 k2), B16 (dblK t0 k2)] rfl (DO.out _ _ (blkN_lt hF k2) (DK.out k2) _ Z93.out.rs.gb) ?_
      rintro e w94 ⟨rfl, hb⟩
      have Z95 := Lib.hid (Z93.out.bel hb)
      clear hb Z93
      refine ⟨_, rfl, Z95.out.rs, ?_⟩
      simp only [Act.put, sA9, sB9, sC9]
      refine Step.t_one (i := 15) rfl rfl (by kernel_rfl) ?_
      refine Step.w_callx 105 _ _ rfl Tryz.func105 (by kernel_rfl) rfl [.slice (some ⟨g, 0, none⟩) n cap, .int .i64 k2, B16 (msk E (dblK t0 k2) (blkN F0 k2))] rfl (PU.out (blkF (xtsB E t0) F0 k2) k2 _ hk16 _ Z95.out.sec) ?_
      rintro e w96 ⟨rfl, hsec, hgr⟩
      have Z97 := Lib.hid (Z95.out.put hgr (hsec.congr fun i _ => blkF_put (xtsB E t0) F0 k2 i))
      clear hsec hgr Z95
      refine ⟨_, rfl, Z97.out.rs, ?_⟩
      simp only [Act.put, sA9, sB9, sC9]
      refine Step.t_end (by kernel_rfl) ?_
      go_upto_region 9 with fail
      refine wp_region_lit ?_
      refine Step.p_load rfl _ _ rfl (ab) rfl (Z97.out.rs.own (ab, dblK t0 k2) (.head _)).1 Tryz.underlying27 rfl Field.info16 ?_
      simp only [Act.put, sA9, sB9, sC9]
      refine Step.p_wp rfl (Step.w_callx 166 _ _ rfl Tryz.func166 (by kernel_rfl) rfl [B16 (dblK t0 k2)] rfl (double_num _ (DK.out k2) _) ?_)
      rintro e w98 ⟨rfl, hb⟩
      have Z99 := Lib.hid (Z97.out.bel hb)
      clear hb Z97
      refine ⟨_, rfl, ?_⟩
      simp only [Act.put, sA9, sB9, sC9]
      refine Step.p_store 27 _ _ rfl (ab) rfl rfl (Z99.out.rs.own (ab, dblK t0 k2) (.head _)).1 Field.info16 rfl ?_
      intro w100 ha hg2 _
      have Z101 := Lib.hid (Z99.out.store0 (y := dblN (dblK t0 k2)) ha hg2)
      clear ha hg2 Z99
      simp only [Act.put]
      refine wpList_nil ?_
      go_wp2
      go_roundw
      case rel => exact ⟨k2 + 1, by omega, by go_num, Z101.out⟩
      case measure => simp [RowKit.intOf]; omega
    · obtain rfl : k2 = wl := by omega
      go_upto_region 11 with fail
      refine wp_region_lit ?_
      refine Step.p_move rfl _ rfl (.int .i64 (r : Nat)) rfl ?_
      simp only [Act.put, sA9, sB9, sC9]
      refine Step.p_val rfl (.bool (decide (r = 0))) (by unfold execOp; go_simp; try (first | rfl | (by_cases h : r = 0 <;> simp [h]))) ?_
      simp only [Act.put, sA9, sB9, sC9]
      refine wpList_nil ?_
      by_cases hr0 : r = 0
      · have e0 : k2 = m := HMR.out.2.2.2.1 hr0
        subst e0
        go_wp2
        refine bodyPost_ret (results_none rfl _ _ _) rfl ?_
        exact ⟨rfl, Z3.out.sec.congr fun i _ => by unfold xtsF; rw [if_pos (by rw [HMR.out.2.2.1]; exact hr0), HMR.out.2.1], Z3.out.rs.gb⟩
      have hw1 : k2 + 1 = m := HMR.out.2.2.2.2 (by omega)
      go_upto_region 12 with fail
      go_cut [15, 16] from 79 to 81 (fun x y wx => ∃ b1 b2, x = .pointer (some ⟨b1, 0, none⟩) ∧ y = .pointer (some ⟨b2, 0, none⟩) ∧ RZ g n (blkF (xtsB E t0) F0 k2) [(b1, dblK t0 k2), (b2, dblK t0 (k2 + 1)), (ab, dblK t0 k2)] w wx)
      case first =>
        refine Step.begin_ (S := fun w' => RS g [(ab, dblK t0 k2)] w w') 7 rfl (by kernel_rfl) Z3.out.drew.rs ?_
        intro hSS
        clear hSS
        have Z131 := Lib.hid Z3.out.drew
        clear Z3
        refine Step.t_load (i := 0) rfl rfl (by kernel_rfl) (by kernel_rfl) (by kernel_rfl) Z131.out.rs _ _ rfl (ab) rfl (fun w' h => (h.own (ab, dblK t0 k2) (.head _)).1) Tryz.underlying27 rfl Field.info16 ?_
        simp only [Act.put, sA9, sB9, sC9]
        refine Step.t_load (i := 1) rfl rfl (by kernel_rfl) (by kernel_rfl) (by kernel_rfl) Z131.out.rs _ _ rfl (ab) rfl (fun w' h => (h.own (ab, dblK t0 k2) (.head _)).1) Tryz.underlying27 rfl Field.info16 ?_
        simp only [Act.put, sA9, sB9, sC9]
        refine RS.t_three (i := 2) (j := 3) (k := 4) rfl rfl rfl rfl rfl rfl (by kernel_rfl) ?_ ?_ ?_
        · refine Step.w_callx 166 _ _ rfl Tryz.func166 (by kernel_rfl) rfl [B16 (dblK t0 k2)] rfl (double_num _ (DK.out k2) _) ?_
          rintro e w132 ⟨rfl, hb⟩
          have Z133 := Lib.hid (Z131.out.bel hb)
          clear hb Z131
          refine ⟨_, rfl, Z133.out.rs, ?_⟩
          simp only [Act.put, sA9, sB9, sC9]
          refine Step.t_two (i := 3) (j := 4) rfl rfl rfl rfl (by kernel_rfl) ?_ ?_
          · refine Tw.w_newarr 27 rfl .u8 16 RS.z16 ?_
            intro w134 ha hg2 _
            obtain ⟨b1, hb1⟩ : ∃ b1, w132.heap.size = b1 := ⟨_, rfl⟩
            rw [hb1] at ha ⊢
            have Z135 := Lib.hid (Z133.out.new hb1 ha hg2)
            clear ha hg2 hb1 Z133
            refine ⟨Z135.out.rs.tail, ?_⟩
            simp only [Act.put, sA9, sB9, sC9]
            refine Step.t_one (i := 4) rfl rfl (by kernel_rfl) ?_
            refine Tw.w_newarr 27 rfl .u8 16 RS.z16 ?_
            intro w136 ha hg2 _
            obtain ⟨b2, hb2⟩ : ∃ b2, w134.heap.size = b2 := ⟨_, rfl⟩
            rw [hb2] at ha ⊢
            have Z137 := Lib.hid (Z135.out.new hb2 ha hg2)
            clear ha hg2 hb2 Z135
            refine ⟨Z137.out.rs.tail.tail, ?_⟩
            simp only [Act.put, sA9, sB9, sC9]
            refine Step.t_one (i := 5) rfl rfl (by kernel_rfl) ?_
            refine RS.w_store 27 _ _ rfl (b1) rfl rfl (Z137.out.rs.own (b1, 0) (.tail _ (.head _))).1 Field.info16 ?_
            intro w138 ha hg2 _
            have Z139 := Lib.hid (Z137.out.store1 (y := dblK t0 k2) ha hg2)
            clear ha hg2 Z137
            refine ⟨Z139.out.rs.tail.tail, ?_⟩
            simp only [Act.put]
            refine Step.t_one (i := 6) rfl rfl (by kernel_rfl) ?_
            refine RS.w_store 27 _ _ rfl (b2) rfl rfl (Z139.out.rs.own (b2, 0) (.head _)).1 Field.info16 ?_
            intro w140 ha hg2 _
            have Z141 := Lib.hid (Z139.out.store0 (y := dblN (dblK t0 k2)) ha hg2)
            clear ha hg2 Z139
            refine ⟨Z141.out.rs.tail.tail, ?_⟩
            simp only [Act.put]
            refine Step.t_end (by kernel_rfl) ?_
            go_wp2
            go_meet
            case rel => exact ⟨b1, b2, rfl, rfl, Z141.out.swap⟩
          · refine Tw.w_newarr 27 rfl .u8 16 RS.z16 ?_
            intro w134 ha hg2 _
            obtain ⟨b2, hb2⟩ : ∃ b2, w132.heap.size = b2 := ⟨_, rfl⟩
            rw [hb2] at ha ⊢
            have Z135 := Lib.hid (Z133.out.new hb2 ha hg2)
            clear ha hg2 hb2 Z133
            refine ⟨Z135.out.rs.tail, ?_⟩
            simp only [Act.put, sA9, sB9, sC9]
            refine Step.t_one (i := 3) rfl rfl (by kernel_rfl) ?_
            refine Tw.w_newarr 27 rfl .u8 16 RS.z16 ?_
            intro w136 ha hg2 _
            obtain ⟨b1, hb1⟩ : ∃ b1, w134.heap.size = b1 := ⟨_, rfl⟩
            rw [hb1] at ha ⊢
            have Z137 := Lib.hid (Z135.out.new hb1 ha hg2)
            clear ha hg2 hb1 Z135
            refine ⟨Z137.out.rs.tail.tail, ?_⟩
            simp only [Act.put, sA9, sB9, sC9]
            refine Step.t_one (i := 5) rfl rfl (by kernel_rfl) ?_
            refine RS.w_store 27 _ _ rfl (b1) rfl rfl (Z137.out.rs.own (b1, 0) (.head _)).1 Field.info16 ?_
            intro w138 ha hg2 _
            have Z139 := Lib.hid (Z137.out.store0 (y := dblK t0 k2) ha hg2)
            clear ha hg2 Z137
            refine ⟨Z139.out.rs.tail.tail, ?_⟩
            simp only [Act.put]
            refine Step.t_one (i := 6) rfl rfl (by kernel_rfl) ?_
            refine RS.w_store 27 _ _ rfl (b2) rfl rfl (Z139.out.rs.own (b2, 0) (.tail _ (.head _))).1 Field.info16 ?_
            intro w140 ha hg2 _
            have Z141 := Lib.hid (Z139.out.store1 (y := dblN (dblK t0 k2)) ha hg2)
            clear ha hg2 Z139
            refine ⟨Z141.out.rs.tail.tail, ?_⟩
            simp only [Act.put]
            refine Step.t_end (by kernel_rfl) ?_
            go_wp2
            go_meet
            case rel => exact ⟨b1, b2, rfl, rfl, Z141.out⟩
        · refine Tw.w_newarr 27 rfl .u8 16 RS.z16 ?_
          intro w132 ha hg2 _
          obtain ⟨b1, hb1⟩ : ∃ b1, wr.drew.heap.size = b1 := ⟨_, rfl⟩
          rw [hb1] at ha ⊢
          have Z133 := Lib.hid (Z131.out.new hb1 ha hg2)
          clear ha hg2 hb1 Z131
          refine ⟨Z133.out.rs.tail, ?_⟩
          simp only [Act.put, sA9, sB9, sC9]
          refine Step.t_two (i := 2) (j := 4) rfl rfl rfl rfl (by kernel_rfl) ?_ ?_
          · refine Step.w_callx 166 _ _ rfl Tryz.func166 (by kernel_rfl) rfl [B16 (dblK t0 k2)] rfl (double_num _ (DK.out k2) _) ?_
            rintro e w134 ⟨rfl, hb⟩
            have Z135 := Lib.hid (Z133.out.bel hb)
            clear hb Z133
            refine ⟨_, rfl, Z135.out.rs.tail, ?_⟩
            simp only [Act.put, sA9, sB9, sC9]
            refine Step.t_one (i := 4) rfl rfl (by kernel_rfl) ?_
            refine Tw.w_newarr 27 rfl .u8 16 RS.z16 ?_
            intro w136 ha hg2 _
            obtain ⟨b2, hb2⟩ : ∃ b2, w134.heap.size = b2 := ⟨_, rfl⟩
            rw [hb2] at ha ⊢
            have Z137 := Lib.hid (Z135.out.new hb2 ha hg2)
            clear ha hg2 hb2 Z135
            refine ⟨Z137.out.rs.tail.tail, ?_⟩
            simp only [Act.put, sA9, sB9, sC9]
            refine Step.t_one (i := 5) rfl rfl (by kernel_rfl) ?_
            refine RS.w_store 27 _ _ rfl (b1) rfl rfl (Z137.out.rs.own (b1, 0) (.tail _ (.head _))).1 Field.info16 ?_
            intro w138 ha hg2 _
            have Z139 := Lib.hid (Z137.out.store1 (y := dblK t0 k2) ha hg2)
            clear ha hg2 Z137
            refine ⟨Z139.out.rs.tail.tail, ?_⟩
            simp only [Act.put]
            refine Step.t_one (i := 6) rfl rfl (by kernel_rfl) ?_
            refine RS.w_store 27 _ _ rfl (b2) rfl rfl (Z139.out.rs.own (b2, 0) (.head _)).1 Field.info16 ?_
            intro w140 ha hg2 _
            have Z141 := Lib.hid (Z139.out.store0 (y := dblN (dblK t0 k2)) ha hg2)
            clear ha hg2 Z139
            refine ⟨Z141.out.rs.tail.tail, ?_⟩
            simp only [Act.put]
            refine Step.t_end (by kernel_rfl) ?_
            go_wp2
            go_meet
            case rel => exact ⟨b1, b2, rfl, rfl, Z141.out.swap⟩
          · refine Tw.w_newarr 27 rfl .u8 16 RS.z16 ?_
            intro w134 ha hg2 _
            obtain ⟨b2, hb2⟩ : ∃ b2, w132.heap.size = b2 := ⟨_, rfl⟩
            rw [hb2] at ha ⊢
            have Z135 := Lib.hid (Z133.out.new hb2 ha hg2)
            clear ha hg2 hb2 Z133
            refine ⟨Z135.out.rs.tail.tail, ?_⟩
            simp only [Act.put, sA9, sB9, sC9]
            refine Step.t_one (i := 2) rfl rfl (by kernel_rfl) ?_
            refine Step.w_callx 166 _ _ rfl Tryz.func166 (by kernel_rfl) rfl [B16 (dblK t0 k2)] rfl (double_num _ (DK.out k2) _) ?_
            rintro e w136 ⟨rfl, hb⟩
            have Z137 := Lib.hid (Z135.out.bel hb)
            clear hb Z135
            refine ⟨_, rfl, Z137.out.rs.tail.tail, ?_⟩
            simp only [Act.put, sA9, sB9, sC9]
            refine Step.t_one (i := 5) rfl rfl (by kernel_rfl) ?_
            refine RS.w_store 27 _ _ rfl (b1) rfl rfl (Z137.out.rs.own (b1, 0) (.tail _ (.head _))).1 Field.info16 ?_
            intro w138 ha hg2 _
            have Z139 := Lib.hid (Z137.out.store1 (y := dblK t0 k2) ha hg2)
            clear ha hg2 Z137
            refine ⟨Z139.out.rs.tail.tail, ?_⟩
            simp only [Act.put]
            refine Step.t_one (i := 6) rfl rfl (by kernel_rfl) ?_
            refine RS.w_store 27 _ _ rfl (b2) rfl rfl (Z139.out.rs.own (b2, 0) (.head _)).1 Field.info16 ?_
            intro w140 ha hg2 _
            have Z141 := Lib.hid (Z139.out.store0 (y := dblN (dblK t0 k2)) ha hg2)
            clear ha hg2 Z139
            refine ⟨Z141.out.rs.tail.tail, ?_⟩
            simp only [Act.put]
            refine Step.t_end (by kernel_rfl) ?_
            go_wp2
            go_meet
            case rel => exact ⟨b1, b2, rfl, rfl, Z141.out.swap⟩
        · refine Tw.w_newarr 27 rfl .u8 16 RS.z16 ?_
          intro w132 ha hg2 _
          obtain ⟨b2, hb2⟩ : ∃ b2, wr.drew.heap.size = b2 := ⟨_, rfl⟩
          rw [hb2] at ha ⊢
          have Z133 := Lib.hid (Z131.out.new hb2 ha hg2)
          clear ha hg2 hb2 Z131
          refine ⟨Z133.out.rs.tail, ?_⟩
          simp only [Act.put, sA9, sB9, sC9]
          refine Step.t_two (i := 2) (j := 3) rfl rfl rfl rfl (by kernel_rfl) ?_ ?_
          · refine Step.w_callx 166 _ _ rfl Tryz.func166 (by kernel_rfl) rfl [B16 (dblK t0 k2)] rfl (double_num _ (DK.out k2) _) ?_
            rintro e w134 ⟨rfl, hb⟩
            have Z135 := Lib.hid (Z133.out.bel hb)
            clear hb Z133
            refine ⟨_, rfl, Z135.out.rs.tail, ?_⟩
            simp only [Act.put, sA9, sB9, sC9]
            refine Step.t_one (i := 3) rfl rfl (by kernel_rfl) ?_
            refine Tw.w_newarr 27 rfl .u8 16 RS.z16 ?_
            intro w136 ha hg2 _
            obtain ⟨b1, hb1⟩ : ∃ b1, w134.heap.size = b1 := ⟨_, rfl⟩
            rw [hb1] at ha ⊢
            have Z137 := Lib.hid (Z135.out.new hb1 ha hg2)
            clear ha hg2 hb1 Z135
            refine ⟨Z137.out.rs.tail.tail, ?_⟩
            simp only [Act.put, sA9, sB9, sC9]
            refine Step.t_one (i := 5) rfl rfl (by kernel_rfl) ?_
            refine RS.w_store 27 _ _ rfl (b1) rfl rfl (Z137.out.rs.own (b1, 0) (.head _)).1 Field.info16 ?_
            intro w138 ha hg2 _
            have Z139 := Lib.hid (Z137.out.store0 (y := dblK t0 k2) ha hg2)
            clear ha hg2 Z137
            refine ⟨Z139.out.rs.tail.tail, ?_⟩
            simp only [Act.put]
            refine Step.t_one (i := 6) rfl rfl (by kernel_rfl) ?_
            refine RS.w_store 27 _ _ rfl (b2) rfl rfl (Z139.out.rs.own (b2, 0) (.tail _ (.head _))).1 Field.info16 ?_
            intro w140 ha hg2 _
            have Z141 := Lib.hid (Z139.out.store1 (y := dblN (dblK t0 k2)) ha hg2)
            clear ha hg2 Z139
            refine ⟨Z141.out.rs.tail.tail, ?_⟩
            simp only [Act.put]
            refine Step.t_end (by kernel_rfl) ?_
            go_wp2
            go_meet
            case rel => exact ⟨b1, b2, rfl, rfl, Z141.out⟩
          · refine Tw.w_newarr 27 rfl .u8 16 RS.z16 ?_
            intro w134 ha hg2 _
            obtain ⟨b1, hb1⟩ : ∃ b1, w132.heap.size = b1 := ⟨_, rfl⟩
            rw [hb1] at ha ⊢
            have Z135 := Lib.hid (Z133.out.new hb1 ha hg2)
            clear ha hg2 hb1 Z133
            refine ⟨Z135.out.rs.tail.tail, ?_⟩
            simp only [Act.put, sA9, sB9, sC9]
            refine Step.t_one (i := 2) rfl rfl (by kernel_rfl) ?_
            refine Step.w_callx 166 _ _ rfl Tryz.func166 (by kernel_rfl) rfl [B16 (dblK t0 k2)] rfl (double_num _ (DK.out k2) _) ?_
            rintro e w136 ⟨rfl, hb⟩
            have Z137 := Lib.hid (Z135.out.bel hb)
            clear hb Z135
            refine ⟨_, rfl, Z137.out.rs.tail.tail, ?_⟩
            simp only [Act.put, sA9, sB9, sC9]
            refine Step.t_one (i := 5) rfl rfl (by kernel_rfl) ?_
            refine RS.w_store 27 _ _ rfl (b1) rfl rfl (Z137.out.rs.own (b1, 0) (.head _)).1 Field.info16 ?_
            intro w138 ha hg2 _
            have Z139 := Lib.hid (Z137.out.store0 (y := dblK t0 k2) ha hg2)
            clear ha hg2 Z137
            refine ⟨Z139.out.rs.tail.tail, ?_⟩
            simp only [Act.put]
            refine Step.t_one (i := 6) rfl rfl (by kernel_rfl) ?_
            refine RS.w_store 27 _ _ rfl (b2) rfl rfl (Z139.out.rs.own (b2, 0) (.tail _ (.head _))).1 Field.info16 ?_
            intro w140 ha hg2 _
            have Z141 := Lib.hid (Z139.out.store1 (y := dblN (dblK t0 k2)) ha hg2)
            clear ha hg2 Z139
            refine ⟨Z141.out.rs.tail.tail, ?_⟩
            simp only [Act.put]
            refine Step.t_end (by kernel_rfl) ?_
            go_wp2
            go_meet
            case rel => exact ⟨b1, b2, rfl, rfl, Z141.out⟩
      obtain ⟨b1, b2, rfl, rfl, hz⟩ := hcut
      have Z5 := Lib.hid hz
      clear hz Z3
      go_upto_region 13 with fail
      refine wp_region_lit ?_
      refine Step.p_move rfl _ rfl (.bool back) rfl ?_
      simp only [Act.put, sA9, sB9, sC9]
      refine wpList_nil ?_
      have e1 : dblK t0 k2 = dblK t0 (m - 1) := by rw [← hw1]; rfl
      have e2 : dblK t0 (k2 + 1) = dblK t0 m := by rw [hw1]
      go_upto_if 82 with fail
      go_cut [] from 83 to 84 (fun wx => RZ g n (blkF (xtsB E t0) F0 k2) [(b1, xts1 back t0 m), (b2, xts2 back t0 m), (ab, dblK t0 k2)] w wx)
      case first =>
        cases back with
        | true =>
          go_upto_region 14 with fail
          refine wp_region_lit ?_
          refine Step.p_load rfl _ _ rfl (b2) rfl (Z5.out.rs.own (b2, dblK t0 (k2 + 1)) (.tail _ (.head _))).1 Tryz.underlying27 rfl Field.info16 ?_
          simp only [Act.put, sA9, sB9, sC9]
          refine Step.p_load rfl _ _ rfl (b1) rfl (Z5.out.rs.own (b1, dblK t0 k2) (.head _)).1 Tryz.underlying27 rfl Field.info16 ?_
          simp only [Act.put, sA9, sB9, sC9]
          refine Step.p_store 27 _ _ rfl (b1) rfl rfl (Z5.out.rs.own (b1, dblK t0 k2) (.head _)).1 Field.info16 rfl ?_
          intro w161 ha hg2 _
          have Z162 := Lib.hid (Z5.out.store0 (y := dblK t0 (k2 + 1)) ha hg2)
          clear ha hg2 Z5
          simp only [Act.put]
          refine Step.p_store 27 _ _ rfl (b2) rfl rfl (Z162.out.rs.own (b2, dblK t0 (k2 + 1)) (.tail _ (.head _))).1 Field.info16 rfl ?_
          intro w163 ha hg2 _
          have Z164 := Lib.hid (Z162.out.store1 (y := dblK t0 k2) ha hg2)
          clear ha hg2 Z162
          simp only [Act.put]
          refine wpList_nil ?_
          go_wp2
          go_meet
          case rel =>
            have h := Z164.out
            rw [e2, e1] at h
            rw [e1]
            exact h
        | false =>
          go_wp2
          go_meet
          case rel =>
            have h := Z5.out
            rw [e2, e1] at h
            rw [e1]
            exact h
      have Z6 := Lib.hid hcut
      clear Z5 hcut
      have hk16 : 16 * k2 + 16 ≤ n := by have := HMR.out; omega
      have X1 : xts1 back t0 m < 2 ^ 128 := by unfold xts1; split <;> exact DK.out _
      have X2 : xts2 back t0 m < 2 ^ 128 := by unfold xts2; split <;> exact DK.out _
      have EQ : msk E (xts1 back t0 m) (blkN F0 k2) = xtsQ E back t0 m F0 := by unfold xtsQ; rw [show m - 1 = k2 by omega]
      go_upto_region 15 with fail
      go_cut [17] from 85 to 97 (fun x wx => ∃ b3, x = .pointer (some ⟨b3, 0, none⟩) ∧ RZ g n (blkF (xtsB E t0) F0 k2) [(b3, xtsQ E back t0 m F0), (b1, xts1 back t0 m), (b2, xts2 back t0 m), (ab, dblK t0 k2)] w wx)
      case first =>
        refine Step.begin_ (S := fun w' => RS g [(b1, xts1 back t0 m), (b2, xts2 back t0 m), (ab, dblK t0 k2)] w w') 15 rfl (by kernel_rfl) Z6.out.drew.rs ?_
        intro hSS
        clear hSS
        have Z191 := Lib.hid Z6.out.drew
        clear Z6
        refine Step.t_move (i := 0) rfl rfl (by kernel_rfl) (by kernel_rfl) (by kernel_rfl) Z191.out.rs _ rfl (.func (.func 167) #[] #[.pointer (some ⟨p, 0, none⟩)]) rfl ?_
        simp only [Act.put, sA9, sB9, sC9]
        refine Step.t_move (i := 1) rfl rfl (by kernel_rfl) (by kernel_rfl) (by kernel_rfl) Z191.out.rs _ rfl (.pointer (some ⟨cb, 0, none⟩)) rfl ?_
        simp only [Act.put, sA9, sB9, sC9]
        refine Step.t_move (i := 8) rfl rfl (by kernel_rfl) (by kernel_rfl) (by kernel_rfl) Z191.out.rs _ rfl (.slice (some ⟨g, 0, none⟩) n cap) rfl ?_
        simp only [Act.put, sA9, sB9, sC9]
        refine Step.t_move (i := 9) rfl rfl (by kernel_rfl) (by kernel_rfl) (by kernel_rfl) Z191.out.rs _ rfl (.int .i64 k2) rfl ?_
        simp only [Act.put, sA9, sB9, sC9]
        refine Step.t_load (i := 11) rfl rfl (by kernel_rfl) (by kernel_rfl) (by kernel_rfl) Z191.out.rs _ _ rfl (b1) rfl (fun w' h => (h.own (b1, xts1 back t0 m) (.head _)).1) Tryz.underlying27 rfl Field.info16 ?_
        simp only [Act.put, sA9, sB9, sC9]
        refine Step.t_val (i := 2) rfl rfl (by kernel_rfl) (by kernel_rfl) (by kernel_rfl) Z191.out.rs (.pointer (some ⟨cb, 0, none⟩)) (fun w' _ => by rfl) ?_
        simp only [Act.put, sA9, sB9, sC9]
        refine Tree.t_field (i := 3) rfl rfl (by kernel_rfl) (by kernel_rfl) (by kernel_rfl) Z191.out.rs _ _ _ rfl (cb) (0) rfl Tryz.underlying80 rfl (sz := 1) (by kernel_rfl) (by decide) (0) rfl ?_
        simp only [Act.put, sA9, sB9, sC9]
        refine Tree.t_load1 (i := 4) rfl rfl (by kernel_rfl) (by kernel_rfl) (by kernel_rfl) Z191.out.rs _ _ rfl (cb) (0) rfl (.pointer (some ⟨xb, 0, none⟩)) (fun w' h => C0.out w' h.gb) Tryz.underlying76 rfl ?_
        simp only [Act.put, sA9, sB9, sC9]
        refine Step.t_val (i := 5) rfl rfl (by kernel_rfl) (by kernel_rfl) (by kernel_rfl) Z191.out.rs (.pointer (some ⟨xb, 0, none⟩)) (fun w' _ => by rfl) ?_
        simp only [Act.put, sA9, sB9, sC9]
        refine Tree.t_field (i := 6) rfl rfl (by kernel_rfl) (by kernel_rfl) (by kernel_rfl) Z191.out.rs _ _ _ rfl (xb) (0) rfl Tryz.underlying96 rfl (sz := 1) (by kernel_rfl) (by decide) (2) rfl ?_
        simp only [Act.put, sA9, sB9, sC9]
        refine Tree.t_load1 (i := 7) rfl rfl (by kernel_rfl) (by kernel_rfl) (by kernel_rfl) Z191.out.rs _ _ rfl (xb) (2) rfl (v) (fun w' h => C2.out w' h.gb) Tryz.underlying94 rfl ?_
        simp only [Act.put, sA9, sB9, sC9]
        refine Step.t_two (i := 10) (j := 13) rfl rfl rfl rfl (by kernel_rfl) ?_ ?_
        · refine Step.w_callx 107 _ _ rfl Tryz.func107 (by kernel_rfl) rfl [.slice (some ⟨g, 0, none⟩) n cap, .int .i64 k2] rfl (GT.out (blkF (xtsB E t0) F0 k2) (blkF_lt hF k2) k2 hk16 _ Z191.out.sec) ?_
          rintro e w192 ⟨he, hb⟩
          have Z193 := Lib.hid (Z191.out.bel hb)
          rw [blkF_blk] at he
          subst he
          clear hb Z191
          refine ⟨_, rfl, Z193.out.rs, ?_⟩
          simp only [Act.put, sA9, sB9, sC9]
          refine Step.t_two (i := 12) (j := 13) rfl rfl rfl rfl (by kernel_rfl) ?_ ?_
          · refine Step.w_callv _ _ _ rfl 167 [.pointer (some ⟨p, 0, none⟩)] rfl Tryz.func167 (by kernel_rfl) rfl [v, B16 (blkN F0 k2), B16 (xts1 back t0 m)] rfl (DO.out _ _ (blkN_lt hF k2) X1 _ Z193.out.rs.gb) ?_
            rintro e w194 ⟨rfl, hb⟩
            have Z195 := Lib.hid (Z193.out.bel hb)
            clear hb Z193
            refine ⟨_, rfl, Z195.out.rs, ?_⟩
            simp only [Act.put, sA9, sB9, sC9]
            refine Step.t_one (i := 13) rfl rfl (by kernel_rfl) ?_
            refine Tw.w_newarr 27 rfl .u8 16 RS.z16 ?_
            intro w196 ha hg2 _
            obtain ⟨b3, hb3⟩ : ∃ b3, w194.heap.size = b3 := ⟨_, rfl⟩
            rw [hb3] at ha ⊢
            have Z197 := Lib.hid (Z195.out.new hb3 ha hg2)
            clear ha hg2 hb3 Z195
            refine ⟨Z197.out.rs.tail, ?_⟩
            simp only [Act.put, sA9, sB9, sC9]
            refine Step.t_one (i := 14) rfl rfl (by kernel_rfl) ?_
            refine RS.w_store 27 _ _ rfl (b3) rfl rfl (Z197.out.rs.own (b3, 0) (.head _)).1 Field.info16 ?_
            intro w198 ha hg2 _
            have Z199 := Lib.hid (Z197.out.store0 (y := msk E (xts1 back t0 m) (blkN F0 k2)) ha hg2)
            clear ha hg2 Z197
            refine ⟨Z199.out.rs.tail, ?_⟩
            simp only [Act.put]
            refine Step.t_end (by kernel_rfl) ?_
            go_wp2
            go_meet
            case rel =>
              have h := Z199.out
              rw [EQ] at h
              exact ⟨b3, rfl, h⟩
          · refine Tw.w_newarr 27 rfl .u8 16 RS.z16 ?_
            intro w194 ha hg2 _
            obtain ⟨b3, hb3⟩ : ∃ b3, w192.heap.size = b3 := ⟨_, rfl⟩
            rw [hb3] at ha ⊢
            have Z195 := Lib.hid (Z193.out.new hb3 ha hg2)
            clear ha hg2 hb3 Z193
            refine ⟨Z195.out.rs.tail, ?_⟩
            simp only [Act.put, sA9, sB9, sC9]
            refine Step.t_one (i := 12) rfl rfl (by kernel_rfl) ?_
            refine Step.w_callv _ _ _ rfl 167 [.pointer (some ⟨p, 0, none⟩)] rfl Tryz.func167 (by kernel_rfl) rfl [v, B16 (blkN F0 k2), B16 (xts1 back t0 m)] rfl (DO.out _ _ (blkN_lt hF k2) X1 _ Z195.out.rs.gb) ?_
            rintro e w196 ⟨rfl, hb⟩
            have Z197 := Lib.hid (Z195.out.bel hb)
            clear hb Z195
            refine ⟨_, rfl, Z197.out.rs.tail, ?_⟩
            simp only [Act.put, sA9, sB9, sC9]
            refine Step.t_one (i := 14) rfl rfl (by kernel_rfl) ?_
            refine RS.w_store 27 _ _ rfl (b3) rfl rfl (Z197.out.rs.own (b3, 0) (.head _)).1 Field.info16 ?_
            intro w198 ha hg2 _
            have Z199 := Lib.hid (Z197.out.store0 (y := msk E (xts1 back t0 m) (blkN F0 k2)) ha hg2)
            clear ha hg2 Z197
            refine ⟨Z199.out.rs.tail, ?_⟩
            simp only [Act.put]
            refine Step.t_end (by kernel_rfl) ?_
            go_wp2
            go_meet
            case rel =>
              have h := Z199.out
              rw [EQ] at h
              exact ⟨b3, rfl, h⟩
        · refine Tw.w_newarr 27 rfl .u8 16 RS.z16 ?_
          intro w192 ha hg2 _
          obtain ⟨b3, hb3⟩ : ∃ b3, wc.drew.heap.size = b3 := ⟨_, rfl⟩
          rw [hb3] at ha ⊢
          have Z193 := Lib.hid (Z191.out.new hb3 ha hg2)
          clear ha hg2 hb3 Z191
          refine ⟨Z193.out.rs.tail, ?_⟩
          simp only [Act.put, sA9, sB9, sC9]
          refine Step.t_one (i := 10) rfl rfl (by kernel_rfl) ?_
          refine Step.w_callx 107 _ _ rfl Tryz.func107 (by kernel_rfl) rfl [.slice (some ⟨g, 0, none⟩) n cap, .int .i64 k2] rfl (GT.out (blkF (xtsB E t0) F0 k2) (blkF_lt hF k2) k2 hk16 _ Z193.out.sec) ?_
          rintro e w194 ⟨he, hb⟩
          have Z195 := Lib.hid (Z193.out.bel hb)
          rw [blkF_blk] at he
          subst he
          clear hb Z193
          refine ⟨_, rfl, Z195.out.rs.tail, ?_⟩
          simp only [Act.put, sA9, sB9, sC9]
          refine Step.t_one (i := 12) rfl rfl (by kernel_rfl) ?_
          refine Step.w_callv _ _ _ rfl 167 [.pointer (some ⟨p, 0, none⟩)] rfl Tryz.func167 (by kernel_rfl) rfl [v, B16 (blkN F0 k2), B16 (xts1 back t0 m)] rfl (DO.out _ _ (blkN_lt hF k2) X1 _ Z195.out.rs.gb) ?_
          rintro e w196 ⟨rfl, hb⟩
          have Z197 := Lib.hid (Z195.out.bel hb)
          clear hb Z195
          refine ⟨_, rfl, Z197.out.rs.tail, ?_⟩
          simp only [Act.put, sA9, sB9, sC9]
          refine Step.t_one (i := 14) rfl rfl (by kernel_rfl) ?_
          refine RS.w_store 27 _ _ rfl (b3) rfl rfl (Z197.out.rs.own (b3, 0) (.head _)).1 Field.info16 ?_
          intro w198 ha hg2 _
          have Z199 := Lib.hid (Z197.out.store0 (y := msk E (xts1 back t0 m) (blkN F0 k2)) ha hg2)
          clear ha hg2 Z197
          refine ⟨Z199.out.rs.tail, ?_⟩
          simp only [Act.put]
          refine Step.t_end (by kernel_rfl) ?_
          go_wp2
          go_meet
          case rel =>
            have h := Z199.out
            rw [EQ] at h
            exact ⟨b3, rfl, h⟩
      obtain ⟨b3, rfl, hz⟩ := hcut
      have Z7 := Lib.hid hz
      clear hz Z6
      have hcr : 16 * m < cap ∧ 16 * m ≤ n ∧ n - 16 * m = r := by have := HMR.out; omega
      go_upto_region 16 with fail
      refine wp_region_lit ?_
      refine Step.p_move rfl _ rfl (.slice (some ⟨g, 0, none⟩) n cap) rfl ?_
      simp only [Act.put, sA9, sB9, sC9]
      refine Step.p_move rfl _ rfl (.int .i64 (m : Nat)) rfl ?_
      simp only [Act.put, sA9, sB9, sC9]
      refine Step.p_val rfl (.int .i64 (16 * m : Nat)) (by unfold execOp; go_simp; try (first | rfl | omega | exact IntWalk.i64_in _ (by omega) | exact (IntWalk.i64_in _ (by omega)).trans (by omega))) ?_
      simp only [Act.put, sA9, sB9, sC9]
      refine Step.p_val rfl (.slice (some ⟨g, 16 * m, none⟩) r (cap - 16 * m)) (by unfold execOp; go_simp; rw [if_pos ⟨by omega, by omega⟩, show (16 * (m : Int)).toNat = 16 * m by omega, if_neg (by omega), hcr.2.2]) ?_
      simp only [Act.put, sA9, sB9, sC9]
      refine Step.p_assign rfl _ rfl (.slice (some ⟨g, 16 * m, none⟩) r (cap - 16 * m)) rfl ?_
      simp only [Act.put, sA9, sB9, sC9]
      refine wpList_nil ?_
      go_upto_region 17 with fail
      refine wp_region_lit ?_
      refine Step.p_load rfl _ _ rfl (b3) rfl (Z7.out.rs.own (b3, xtsQ E back t0 m F0) (.head _)).1 Tryz.underlying27 rfl Field.info16 ?_
      simp only [Act.put, sA9, sB9, sC9]
      refine New.p_newarr rfl 27 rfl .u8 16 RS.z16 ?_
      intro w221 ha hg2 _
      obtain ⟨b4, hb4⟩ : ∃ b4, wc.heap.size = b4 := ⟨_, rfl⟩
      rw [hb4] at ha ⊢
      have Z222 := Lib.hid (Z7.out.new hb4 ha hg2)
      clear ha hg2 hb4 Z7
      simp only [Act.put, sA9, sB9, sC9]
      refine Step.p_store 27 _ _ rfl (b4) rfl rfl (Z222.out.rs.own (b4, 0) (.head _)).1 Field.info16 rfl ?_
      intro w223 ha hg2 _
      have Z224 := Lib.hid (Z222.out.store0 (y := xtsQ E back t0 m F0) ha hg2)
      clear ha hg2 Z222
      simp only [Act.put]
      refine wpList_nil ?_
      go_upto_region 18 with fail
      refine wp_region_lit ?_
      refine Step.p_val rfl (.slice (some ⟨b4, 0, none⟩) 16 16) (by unfold execOp; go_simp; try rfl) ?_
      simp only [Act.put, sA9, sB9, sC9]
      refine Step.p_move rfl _ rfl (.slice (some ⟨g, 16 * m, none⟩) r (cap - 16 * m)) rfl ?_
      simp only [Act.put, sA9, sB9, sC9]
      refine Step.p_wp rfl (RS.w_copyA 22 22 5 _ _ rfl Tryz.underlying22 (by kernel_rfl) b4 16 rfl g (16 * m) r (cap - 16 * m) rfl (Z224.out.rs.own (b4, xtsQ E back t0 m F0) (.head _)).1 (f := fun i => F0 (16 * m + i)) (fun i hi => by
        have e := Z224.out.sec.cell (i := 16 * m + i) (by have := HMR.out; omega)
        rw [e]
        unfold blkF
        rw [if_neg (by omega)]) (fun i => hF _) (by omega) ?_)
      intro w225 ha hg2
      have Z226 := Lib.hid (Z224.out.store0 (y := xtsL E back t0 m r F0) (ha.congr fun i hi => by unfold xtsL; rw [byt_lowN (fun i => by split; exact hF _; exact byt_lt _ _) hi]) hg2)
      clear ha hg2 Z224
      simp only [Act.put, sA9, sB9, sC9]
      refine wpList_nil ?_
      go_upto_region 19 with fail
      refine wp_region_lit ?_
      refine Step.p_move rfl _ rfl (.slice (some ⟨g, 16 * m, none⟩) r (cap - 16 * m)) rfl ?_
      simp only [Act.put, sA9, sB9, sC9]
      refine Step.p_move rfl _ rfl (.int .i64 (r : Nat)) rfl ?_
      simp only [Act.put, sA9, sB9, sC9]
      refine Step.p_val rfl (.slice (some ⟨b3, 0, none⟩) r 16) (by unfold execOp; simp only [Act.eval]; go_simp; rw [RS.run_sliceHi Tryz.underlying27 (by kernel_rfl) b3 r (by decide) (by omega)]; rfl) ?_
      simp only [Act.put, sA9, sB9, sC9]
      refine Step.p_wp rfl (RS.w_copyS 22 22 5 _ _ rfl Tryz.underlying22 (by kernel_rfl) g (16 * m) r (cap - 16 * m) rfl b3 r 16 rfl Z226.out.sec (f := fun i => byt (xtsQ E back t0 m F0) i) (fun i hi => (Z226.out.rs.own (b3, xtsQ E back t0 m F0) (.tail _ (.head _))).1.cell (by omega)) (by have := HMR.out; omega) ?_)
      intro w227 hsec hgr
      have Z228 := Lib.hid (Z226.out.put hgr hsec)
      clear hsec hgr Z226
      simp only [Act.put, sA9, sB9, sC9]
      refine wpList_nil ?_
      go_upto_region 20 with fail
      refine Step.begin_ (S := fun w' => RS g [(b4, xtsL E back t0 m r F0), (b3, xtsQ E back t0 m F0), (b1, xts1 back t0 m), (b2, xts2 back t0 m), (ab, dblK t0 k2)] w w') 14 rfl (by kernel_rfl) Z228.out.drew.rs ?_
      intro hSS
      clear hSS
      have Z229 := Lib.hid Z228.out.drew
      clear Z228
      refine Step.t_move (i := 0) rfl rfl (by kernel_rfl) (by kernel_rfl) (by kernel_rfl) Z229.out.rs _ rfl (.slice (some ⟨g, 0, none⟩) n cap) rfl ?_
      simp only [Act.put, sA9, sB9, sC9]
      refine Step.t_move (i := 1) rfl rfl (by kernel_rfl) (by kernel_rfl) (by kernel_rfl) Z229.out.rs _ rfl (.int .i64 k2) rfl ?_
      simp only [Act.put, sA9, sB9, sC9]
      refine Step.t_move (i := 2) rfl rfl (by kernel_rfl) (by kernel_rfl) (by kernel_rfl) Z229.out.rs _ rfl (.func (.func 167) #[] #[.pointer (some ⟨p, 0, none⟩)]) rfl ?_
      simp only [Act.put, sA9, sB9, sC9]
      refine Step.t_move (i := 3) rfl rfl (by kernel_rfl) (by kernel_rfl) (by kernel_rfl) Z229.out.rs _ rfl (.pointer (some ⟨cb, 0, none⟩)) rfl ?_
      simp only [Act.put, sA9, sB9, sC9]
      refine Step.t_load (i := 10) rfl rfl (by kernel_rfl) (by kernel_rfl) (by kernel_rfl) Z229.out.rs _ _ rfl (b4) rfl (fun w' h => (h.own (b4, xtsL E back t0 m r F0) (.head _)).1) Tryz.underlying27 rfl Field.info16 ?_
      simp only [Act.put, sA9, sB9, sC9]
      refine Step.t_load (i := 11) rfl rfl (by kernel_rfl) (by kernel_rfl) (by kernel_rfl) Z229.out.rs _ _ rfl (b2) rfl (fun w' h => (h.own (b2, xts2 back t0 m) (.tail _ (.tail _ (.tail _ (.head _))))).1) Tryz.underlying27 rfl Field.info16 ?_
      simp only [Act.put, sA9, sB9, sC9]
      refine Step.t_val (i := 4) rfl rfl (by kernel_rfl) (by kernel_rfl) (by kernel_rfl) Z229.out.rs (.pointer (some ⟨cb, 0, none⟩)) (fun w' _ => by rfl) ?_
      simp only [Act.put, sA9, sB9, sC9]
      refine Tree.t_field (i := 5) rfl rfl (by kernel_rfl) (by kernel_rfl) (by kernel_rfl) Z229.out.rs _ _ _ rfl (cb) (0) rfl Tryz.underlying80 rfl (sz := 1) (by kernel_rfl) (by decide) (0) rfl ?_
      simp only [Act.put, sA9, sB9, sC9]
      refine Tree.t_load1 (i := 6) rfl rfl (by kernel_rfl) (by kernel_rfl) (by kernel_rfl) Z229.out.rs _ _ rfl (cb) (0) rfl (.pointer (some ⟨xb, 0, none⟩)) (fun w' h => C0.out w' h.gb) Tryz.underlying76 rfl ?_
      simp only [Act.put, sA9, sB9, sC9]
      refine Step.t_val (i := 7) rfl rfl (by kernel_rfl) (by kernel_rfl) (by kernel_rfl) Z229.out.rs (.pointer (some ⟨xb, 0, none⟩)) (fun w' _ => by rfl) ?_
      simp only [Act.put, sA9, sB9, sC9]
      refine Tree.t_field (i := 8) rfl rfl (by kernel_rfl) (by kernel_rfl) (by kernel_rfl) Z229.out.rs _ _ _ rfl (xb) (0) rfl Tryz.underlying96 rfl (sz := 1) (by kernel_rfl) (by decide) (2) rfl ?_
      simp only [Act.put, sA9, sB9, sC9]
      refine Tree.t_load1 (i := 9) rfl rfl (by kernel_rfl) (by kernel_rfl) (by kernel_rfl) Z229.out.rs _ _ rfl (xb) (2) rfl (v) (fun w' h => C2.out w' h.gb) Tryz.underlying94 rfl ?_
      simp only [Act.put, sA9, sB9, sC9]
      refine Step.t_one (i := 12) rfl rfl (by kernel_rfl) ?_
      refine Step.w_callv _ _ _ rfl 167 [.pointer (some ⟨p, 0, none⟩)] rfl Tryz.func167 (by kernel_rfl) rfl [v, B16 (xtsL E back t0 m r F0), B16 (xts2 back t0 m)] rfl (DO.out _ _ (lowN_lt _ (fun i => by split; exact hF _; exact byt_lt _ _) 16) X2 _ Z229.out.rs.gb) ?_
      rintro e w230 ⟨rfl, hb⟩
      have Z231 := Lib.hid (Z229.out.bel hb)
      clear hb Z229
      refine ⟨_, rfl, Z231.out.rs, ?_⟩
      simp only [Act.put, sA9, sB9, sC9]
      refine Step.t_one (i := 13) rfl rfl (by kernel_rfl) ?_
      refine Step.w_callx 105 _ _ rfl Tryz.func105 (by kernel_rfl) rfl [.slice (some ⟨g, 0, none⟩) n cap, .int .i64 k2, B16 (msk E (xts2 back t0 m) (xtsL E back t0 m r F0))] rfl (PU.out _ k2 _ hk16 _ Z231.out.sec) ?_
      rintro e w232 ⟨rfl, hsec, hgr⟩
      have Z233 := Lib.hid (Z231.out.put hgr (hsec))
      clear hsec hgr Z231
      refine ⟨_, rfl, Z233.out.rs, ?_⟩
      simp only [Act.put, sA9, sB9, sC9]
      refine Step.t_end (by kernel_rfl) ?_
      go_wp2
      go_end0
      refine ⟨rfl, Z233.out.sec.congr fun i hi => ?_, Z233.out.rs.gb⟩
      have hmr := HMR.out
      rw [← xts_cut (E := E) (back := back) (t := t0) (f := F0) (by omega) i hi h16, hmr.2.1, hmr.2.2.1, show m - 1 = k2 by omega]
      unfold putF
      split
      · rfl
      · dsimp only
        by_cases h2 : 16 * m ≤ i
        · rw [if_pos h2, if_pos ⟨h2, by omega⟩]
        · rw [if_neg h2, if_neg (by omega)]
end Go.Proofs.YtmifebcaifbmoaaGreatDoor.G
end
