/- TweakFields. -/
import Derived.Test.YtfchbodbkdkcfaaSl
import Derived.Test.YtfchbodbkdkcfaaTField
namespace Go.Proofs.Ytfchbodbkdkcfaa.TFields
open Go.RowKit Go.Lib
open Go.Proofs.Ytfchbodbkdkcfaa.Blk Go.Proofs.Ytfchbodbkdkcfaa.Poly Go.Proofs.Ytfchbodbkdkcfaa.Field Go.Proofs.Ytfchbodbkdkcfaa.Polyval Go.Proofs.Ytfchbodbkdkcfaa.Lists

structure Box (a b : Nat) (B : Nat) (w wr : World) : Prop where
  a : Arr wr B .u8 16 48 (fun i => (byt a i : Int))
  b : Arr wr (B + 1) .u8 16 48 (fun i => (byt b i : Int))
  bel : Below B w wr
  size : B + 2 ≤ wr.heap.size
theorem Box.la {a b B : Nat} {w wr : World} (s : Box a b B w wr) : B < wr.heap.size := by have := s.size; omega
theorem Box.lb {a b B : Nat} {w wr : World} (s : Box a b B w wr) : B + 1 < wr.heap.size := by have := s.size; omega
theorem Box.below {a b B : Nat} {w wr w' : World} (s : Box a b B w wr) (hb : Below wr.heap.size wr w') : Box a b B w w' :=
  ⟨s.a.below hb s.la, s.b.below hb s.lb, s.bel.trans (hb.mono (by have := s.size; omega)), Nat.le_trans s.size hb.size⟩
theorem box_start (a b : Nat) (w : World) : Box a b w.heap.size w ((w.alloc (.cells (arr .u8 16 fun i => (byt a i : Int)) 48)).alloc (.cells (arr .u8 16 fun i => (byt b i : Int)) 48)) :=
  ⟨(Arr.new w .u8 16 _ _).alloc _, by have := (Arr.new (w.alloc (.cells (arr .u8 16 fun i => (byt a i : Int)) 48)) .u8 16 48 fun i => (byt b i : Int)); simpa using this,
    ((Below.refl _ _).alloc (Nat.le_refl _) _).alloc (by simp) _, by simp⟩

set_option maxRecDepth 100000 in
set_option maxHeartbeats 4000000 in
theorem law_any (a b : Nat) (ha : a < 2 ^ 128) (hb : b < 2 ^ 128) (p : Option Addr) (cap : Nat) (ns : List Nat) (w : World) (hcap : ns.length ≤ cap) (hns : ∀ n ∈ ns, n < 2 ^ 128) (hsl : SL w p ns) :
    Calls Try.prog 10 #[B16 a, B16 b, .slice p ns.length cap] w fun e w' => e = .returned (.bool true) ∧ Below w.heap.size w w' := by
  have S1 := Lib.hid (box_start a b w)
  have HA := Lib.hid ha
  have HB := Lib.hid hb
  have HS := Lib.hid hsl
  have HN := Lib.hid hns
  clear ha hb hsl hns
  generalize hlen : ns.length = len at *
  have HL := Lib.hid hlen
  clear hlen
  go_enter Try.func10, Try.ntmps10
  go_upto_if 13 with fail
  go_cut [2] from 7 to 90 (fun s2 wx => ∃ (ms : List Nat) (c : Nat), s2 = .slice p ms.length c ∧ ms.length ≤ 70 ∧ ms = ns.take 70 ∧ Box a b w.heap.size w wx)
  case first =>
    by_cases hgt : 70 < len
    · rcases HS.out with ⟨rfl, h0⟩ | ⟨bl, off, rfl, h1, h2⟩
      · exfalso
        have := HL.out
        rw [h0] at this
        simp at this
        omega
      · go_wp2
        go_meet
        case rel => exact ⟨ns.take 70, cap, by have := HL.out; rw [List.length_take, this, Nat.min_eq_left (by omega)], by rw [List.length_take]; omega, rfl, S1.out⟩
    · go_wp2
      go_meet
      case rel => exact ⟨ns, cap, by rw [HL.out], by rw [HL.out]; omega, by rw [List.take_of_length_le (by rw [HL.out]; omega)], S1.out⟩
  obtain ⟨ms, c, rfl, hm70, hms, hbox⟩ := hcut
  have S0 := Lib.hid hbox
  have hsl : SL w p ms := by rw [hms]; exact HS.out.take 70
  have hnm : ∀ n ∈ ms, n < 2 ^ 128 := fun n hn => HN.out n (List.mem_of_mem_take (by rw [← hms]; exact hn))
  have HS2 := Lib.hid hsl
  have HN2 := Lib.hid hnm
  have LE : Hid (wc.heap.size ≤ wc.heap.size) := Lib.hid (Nat.le_refl _)
  clear hbox hms hsl hnm
  have ha := HA.out
  have hb := HB.out
  clear HA HB
  go_wp2
  refine Eqs.wp_region_class (C := fun w' => Below wc.heap.size wc w') (by kernel_rfl) (by kernel_rfl) (Below.refl _ _).drew ?_
  refine Eqs.q_load rfl 48 _ rfl _ rfl (fun _ hs => S0.out.a.below hs S0.out.la) Try.underlying48 rfl info16 ?_
  simp only [Act.put, List.setIfInBounds_toArray, List.set_cons_zero, List.set_cons_succ]
  refine Eqs.q_call rfl 21 _ _ rfl Try.func21 (by kernel_rfl) rfl _ [B16 a] rfl (fun w' hw' => (double_num a ha w').mono fun e w2 ⟨he, hb⟩ => ⟨he, hw'.trans (hb.mono (Nat.le_trans LE.out hw'.size))⟩) ?_
  simp only [Act.put, List.setIfInBounds_toArray, List.set_cons_zero, List.set_cons_succ]
  refine Eqs.q_load rfl 48 _ rfl _ rfl (fun _ hs => S0.out.a.below hs S0.out.la) Try.underlying48 rfl info16 ?_
  simp only [Act.put, List.setIfInBounds_toArray, List.set_cons_zero, List.set_cons_succ]
  refine Eqs.q_call rfl 22 _ _ rfl Try.func22 (by kernel_rfl) rfl _ [B16 a] rfl (fun w' hw' => (Ref.rdouble_any a ha w').mono fun e w2 ⟨he, hb⟩ => ⟨he, hw'.trans (hb.mono (Nat.le_trans LE.out hw'.size))⟩) ?_
  simp only [Act.put, List.setIfInBounds_toArray, List.set_cons_zero, List.set_cons_succ]
  refine Eqs.q_neq rfl _ _ _ _ rfl (dblN a) (dblN a) rfl rfl Try.underlying48 Try.underlying5 (by kernel_rfl) (by kernel_rfl) (dblN_lt a) (dblN_lt a) false (Eqs.ne_false rfl) ?_
  simp only [Act.put, List.setIfInBounds_toArray, List.set_cons_zero, List.set_cons_succ]
  refine Eqs.q_move rfl _ rfl (.bool false) rfl ?_
  simp only [Act.put, List.setIfInBounds_toArray, List.set_cons_zero, List.set_cons_succ]
  refine Eqs.q_load rfl 48 _ rfl _ rfl (fun _ hs => S0.out.a.below hs S0.out.la) Try.underlying48 rfl info16 ?_
  simp only [Act.put, List.setIfInBounds_toArray, List.set_cons_zero, List.set_cons_succ]
  refine Eqs.q_load rfl 48 _ rfl _ rfl (fun _ hs => S0.out.b.below hs S0.out.lb) Try.underlying48 rfl info16 ?_
  simp only [Act.put, List.setIfInBounds_toArray, List.set_cons_zero, List.set_cons_succ]
  refine Eqs.q_call rfl 19 _ _ rfl Try.func19 (by kernel_rfl) rfl _ [B16 a, B16 b] rfl (fun w' hw' => (TField.times_num a b hb w').mono fun e w2 ⟨he, hb⟩ => ⟨he, hw'.trans (hb.mono (Nat.le_trans LE.out hw'.size))⟩) ?_
  simp only [Act.put, List.setIfInBounds_toArray, List.set_cons_zero, List.set_cons_succ]
  refine Eqs.q_load rfl 48 _ rfl _ rfl (fun _ hs => S0.out.a.below hs S0.out.la) Try.underlying48 rfl info16 ?_
  simp only [Act.put, List.setIfInBounds_toArray, List.set_cons_zero, List.set_cons_succ]
  refine Eqs.q_load rfl 48 _ rfl _ rfl (fun _ hs => S0.out.b.below hs S0.out.lb) Try.underlying48 rfl info16 ?_
  simp only [Act.put, List.setIfInBounds_toArray, List.set_cons_zero, List.set_cons_succ]
  refine Eqs.q_call rfl 23 _ _ rfl Try.func23 (by kernel_rfl) rfl _ [B16 a, B16 b] rfl (fun w' hw' => (Ref.rtimes_any a b w').mono fun e w2 ⟨he, hb⟩ => ⟨he, hw'.trans (hb.mono (Nat.le_trans LE.out hw'.size))⟩) ?_
  simp only [Act.put, List.setIfInBounds_toArray, List.set_cons_zero, List.set_cons_succ]
  refine Eqs.q_neq rfl _ _ _ _ rfl (Frob.tm a b) (Frob.tm a b) rfl rfl Try.underlying48 Try.underlying5 (by kernel_rfl) (by kernel_rfl) (Frob.tm_lt a b) (Frob.tm_lt a b) false (Eqs.ne_false rfl) ?_
  simp only [Act.put, List.setIfInBounds_toArray, List.set_cons_zero, List.set_cons_succ]
  refine Eqs.q_pick rfl _ _ _ rfl _ rfl (.bool false) rfl ?_
  simp only [Act.put, List.setIfInBounds_toArray, List.set_cons_zero, List.set_cons_succ]
  refine Eqs.q_move rfl _ rfl (.bool false) rfl ?_
  simp only [Act.put, List.setIfInBounds_toArray, List.set_cons_zero, List.set_cons_succ]
  refine Eqs.q_load rfl 48 _ rfl _ rfl (fun _ hs => S0.out.a.below hs S0.out.la) Try.underlying48 rfl info16 ?_
  simp only [Act.put, List.setIfInBounds_toArray, List.set_cons_zero, List.set_cons_succ]
  refine Eqs.q_load rfl 48 _ rfl _ rfl (fun _ hs => S0.out.b.below hs S0.out.lb) Try.underlying48 rfl info16 ?_
  simp only [Act.put, List.setIfInBounds_toArray, List.set_cons_zero, List.set_cons_succ]
  refine Eqs.q_call rfl 16 _ _ rfl Try.func16 (by kernel_rfl) rfl _ [B16 a, B16 b] rfl (fun w' hw' => (dot_any a b ha w').mono fun e w2 ⟨he, hb⟩ => ⟨he, hw'.trans (hb.mono (Nat.le_trans LE.out hw'.size))⟩) ?_
  simp only [Act.put, List.setIfInBounds_toArray, List.set_cons_zero, List.set_cons_succ]
  refine Eqs.q_load rfl 48 _ rfl _ rfl (fun _ hs => S0.out.a.below hs S0.out.la) Try.underlying48 rfl info16 ?_
  simp only [Act.put, List.setIfInBounds_toArray, List.set_cons_zero, List.set_cons_succ]
  refine Eqs.q_load rfl 48 _ rfl _ rfl (fun _ hs => S0.out.b.below hs S0.out.lb) Try.underlying48 rfl info16 ?_
  simp only [Act.put, List.setIfInBounds_toArray, List.set_cons_zero, List.set_cons_succ]
  refine Eqs.q_call rfl 24 _ _ rfl Try.func24 (by kernel_rfl) rfl _ [B16 a, B16 b] rfl (fun w' hw' => (Ref.rdot_any a b ha hb w').mono fun e w2 ⟨he, hb⟩ => ⟨he, hw'.trans (hb.mono (Nat.le_trans LE.out hw'.size))⟩) ?_
  simp only [Act.put, List.setIfInBounds_toArray, List.set_cons_zero, List.set_cons_succ]
  refine Eqs.q_neq rfl _ _ _ _ rfl (dotN a b 128) (dotN a b 128) rfl rfl Try.underlying48 Try.underlying5 (by kernel_rfl) (by kernel_rfl) (dotN_lt a b ha 128) (dotN_lt a b ha 128) false (Eqs.ne_false rfl) ?_
  simp only [Act.put, List.setIfInBounds_toArray, List.set_cons_zero, List.set_cons_succ]
  refine Eqs.q_pick rfl _ _ _ rfl _ rfl (.bool false) rfl ?_
  simp only [Act.put, List.setIfInBounds_toArray, List.set_cons_zero, List.set_cons_succ]
  refine wpQuiet_nil ?_
  intro w6 hs6
  have S6 := Lib.hid (S0.out.below hs6)
  have SL6 : Hid (SL w6 p ms) := Lib.hid (HS2.out.keep S6.out.bel)
  clear S0 LE hs6
  obtain ⟨I, Z, hI, hZ, hI1, hI2, hI3⟩ := info_block
  have HI : Hid (Try.prog.info? 48 = some I ∧ I.zero = some Z ∧ I.size = 16 ∧ I.bytes = 16 ∧ Z.cells.size = 16) := Lib.hid ⟨hI, hZ, hI1, hI2, hI3⟩
  clear hI hZ hI1 hI2 hI3
  go_wp2
  go_loopw [8, 7] (fun i m wr => ∃ k : Nat, k ≤ ms.length ∧ i = .int .i64 k ∧ wr.ownsRow w6.heap.size 48 16 m k (flat (ms.take k)) ∧ Below w6.heap.size w6 wr) (fun i _ _ => ms.length - (intOf i).toNat)
  case atStart => exact ⟨0, by omega, rfl, ⟨by simp [flat], .inl ⟨rfl, rfl⟩⟩, Below.refl _ _⟩
  case round =>
    obtain ⟨k, hk, rfl, hm, hbw⟩ := hrel
    have HM := Lib.hid hm
    have HBW := Lib.hid hbw
    have hsz := hbw.size
    clear hm hbw
    by_cases hlt : k < ms.length
    · rcases HS2.out with ⟨rfl, h0⟩ | ⟨bl, off, rfl, hbl, hblk⟩
      · rw [h0] at hlt; exact absurd hlt (by simp)
      have HBL : Hid (bl < w.heap.size ∧ w.rangeAt bl (off + k * 16) (arr .u8 16 fun j => (byt (ms.getD k 0) j : Int)).toList) := Lib.hid ⟨hbl, hblk k hlt⟩
      clear hblk hbl
      have T1 := Lib.hid (flat_take ms k hlt)
      generalize ms.getD k 0 = nk at HBL T1
      have hrg : Hid (wr.rangeAt bl (off + k * 16) (arr .u8 16 fun j => (byt nk j : Int)).toList) := Lib.hid fun j v hv => by
        have h1 := S6.out.size
        rw [HBW.out.cell (p := ⟨bl, off + k * 16 + j, none⟩) (by show bl < _; have := HBL.out.1; omega), S6.out.bel.cell (p := ⟨bl, off + k * 16 + j, none⟩) HBL.out.1]
        exact HBL.out.2 j v hv
      have O1 : Hid ((wr.alloc (.cells (arr .u8 16 fun j => (byt nk j : Int)) 48)).ownsRow w6.heap.size 48 16 u7 k (flat (ms.take k))) := Lib.hid (Held.own_of HM.out fun g hg => Below.heap_alloc _ _ _ (Held.own_lt HM.out hg).2)
      go_upto_region 9 with fail
      refine wp_region_lit ?_
      refine Held.p_move rfl _ rfl u7 rfl ?_
      simp only [Act.put, List.setIfInBounds_toArray, List.set_cons_zero, List.set_cons_succ]
      refine Held.p_move rfl _ rfl (.slice (some ⟨bl, off, none⟩) ms.length c) rfl ?_
      simp only [Act.put, List.setIfInBounds_toArray, List.set_cons_zero, List.set_cons_succ]
      refine Held.p_move rfl _ rfl (.int .i64 k) rfl ?_
      simp only [Act.put, List.setIfInBounds_toArray, List.set_cons_zero, List.set_cons_succ]
      refine Held.p_index rfl _ _ _ _ rfl bl off ms.length c rfl k rfl hlt 16 Try.underlying49 info16 ?_
      simp only [Act.put, List.setIfInBounds_toArray, List.set_cons_zero, List.set_cons_succ]
      refine Held.p_load_mid rfl _ _ rfl bl _ rfl hrg.out Try.underlying48 rfl info16 ?_
      simp only [Act.put, List.setIfInBounds_toArray, List.set_cons_zero, List.set_cons_succ]
      refine Held.p_wp rfl (Held.w_one (n := 16) (k := .u8) (f := fun i => (byt nk i : Int)) _ 48 _ rfl rfl Try.underlying49 info16 (by kernel_rfl) (by decide) (by decide) ?_)
      simp only [Act.put, List.setIfInBounds_toArray, List.set_cons_zero, List.set_cons_succ]
      refine Held.p_wp rfl (Held.w_append _ _ _ rfl w6.heap.size 48 I Z 16 16 Try.underlying49 HI.out.1 HI.out.2.1 HI.out.2.2.1 HI.out.2.2.2.1 HI.out.2.2.2.2 (by decide) u7 k _ rfl O1.out _ 1 1 _ rfl (by simp [arr]) (arr_news (Arr.new wr .u8 16 48 _)) (arr_one16 _) (by simp [maxLen]; omega) (by omega) (by simp; omega) ?_)
      intro m7 w7 hown7 hg7 hnil7 hat7
      simp only [Act.put, List.setIfInBounds_toArray, List.set_cons_zero, List.set_cons_succ]
      refine Held.p_assign rfl _ rfl m7 rfl ?_
      simp only [Act.put, List.setIfInBounds_toArray, List.set_cons_zero, List.set_cons_succ]
      have HB7 : Hid (Below w6.heap.size w6 w7) := Lib.hid (HBW.out.trans ((Below.refl _ wr).alloc (by omega) _ |>.trans (Held.gb_below hg7 (by simp; omega) (fun g hg => (Held.own_lt HM.out hg).1))))
      have OM7 : Hid (w7.ownsRow w6.heap.size 48 16 m7 (k + 1) (flat (ms.take (k + 1)))) := Lib.hid (by rw [T1.out]; exact hown7)
      clear hown7 hg7 hnil7 hat7 O1 hrg
      go_wp2_with fail
      go_roundw
      case rel => exact ⟨k + 1, by omega, by go_num, OM7.out, HB7.out⟩
      case measure => simp [intOf]; omega
    · obtain rfl : k = ms.length := by omega
      have OM : Hid (wr.ownsRow w6.heap.size 48 16 u7 ms.length (flat ms)) := Lib.hid (by have := HM.out; rw [List.take_length] at this; exact this)
      have SB : Hid (Box a b w.heap.size w wr) := Lib.hid (S6.out.below HBW.out)
      clear HM
      have O1 : Hid ((wr.alloc (.cells (arr .u8 16 fun j => (byt 7 j : Int)) 48)).ownsRow w6.heap.size 48 16 u7 ms.length (flat ms)) := Lib.hid (Held.own_of OM.out fun g hg => Below.heap_alloc _ _ _ (Held.own_lt OM.out hg).2)
      go_upto_region 10 with fail
      refine wp_region_lit ?_
      refine Held.p_move rfl _ rfl u7 rfl ?_
      simp only [Act.put, List.setIfInBounds_toArray, List.set_cons_zero, List.set_cons_succ]
      refine Held.p_build rfl _ [(0, .const (.int .u8 7))] rfl (B16 7) [(0, .int .u8 7)] rfl Sl.build7 ?_
      simp only [Act.put, List.setIfInBounds_toArray, List.set_cons_zero, List.set_cons_succ]
      refine Held.p_wp rfl (Held.w_one (n := 16) (k := .u8) (f := fun i => (byt 7 i : Int)) _ 48 _ rfl rfl Try.underlying49 info16 (by kernel_rfl) (by decide) (by decide) ?_)
      simp only [Act.put, List.setIfInBounds_toArray, List.set_cons_zero, List.set_cons_succ]
      refine Held.p_wp rfl (Held.w_append _ _ _ rfl w6.heap.size 48 I Z 16 16 Try.underlying49 HI.out.1 HI.out.2.1 HI.out.2.2.1 HI.out.2.2.2.1 HI.out.2.2.2.2 (by decide) u7 ms.length _ rfl O1.out _ 1 1 _ rfl (by simp [arr]) (arr_news (Arr.new wr .u8 16 48 _)) (arr_one16 _) (by simp [maxLen]; omega) (by omega) (by simp; omega) ?_)
      intro m7 w7 hown7 hg7 hnil7 hat7
      simp only [Act.put, List.setIfInBounds_toArray, List.set_cons_zero, List.set_cons_succ]
      refine Held.p_assign rfl _ rfl m7 rfl ?_
      simp only [Act.put, List.setIfInBounds_toArray, List.set_cons_zero, List.set_cons_succ]
      have HB7 : Hid (Below w6.heap.size w6 w7) := Lib.hid (HBW.out.trans (((Below.refl _ wr).alloc (by omega) _ |>.trans (Held.gb_below hg7 (by simp; omega) (fun g hg => (Held.own_lt OM.out hg).1)))))
      have hnl : ms.length + 1 ≤ ms.length + 1 := Nat.le_refl _
      have cp7 : ∃ g7 cap7, m7 = .slice (some ⟨g7, 0, none⟩) (ms.length + 1) cap7 ∧ ms.length + 1 ≤ cap7 := by
        rcases hown7.2 with ⟨_, h0⟩ | ⟨g, cq, cur, h1, _, _, h4, _⟩
        · omega
        · exact ⟨g, cq, h1, h4⟩
      obtain ⟨g7, cap7, e7, hc7⟩ := cp7
      obtain ⟨p7, cap7', e7', _, hs7⟩ := SL.own (ns := ms ++ [7]) (n := ms.length + 1) (by rw [flat_snoc]; exact hown7)
      rw [e7] at e7'
      injection e7' with e1 e2 e3
      subst e1 e3
      subst e7
      have SM : Hid (SL w7 (some ⟨g7, 0, none⟩) (ms ++ [7])) := Lib.hid hs7
      clear hown7 hg7 hnil7 hat7 O1 OM hs7 hnl e2
      have S0 : Hid (Box a b w.heap.size w w7) := Lib.hid (S6.out.below HB7.out)
      go_upto_region 11 with fail
      go_cut [9] from 56 to 90 (fun s9 wx => ∃ X, s9 = .pointer (some ⟨X, 0, none⟩) ∧ Below w7.heap.size w7 wx ∧ Arr wx X .u8 16 48 (fun i => (byt (polyN a ms) i : Int)))
      case first =>
        refine Held.begin_ (S := fun w' => Below w7.heap.size w7 w') 8 rfl (by kernel_rfl) (Below.refl _ _).drew ?_
        intro hS
        have BX := Lib.hid hS
        clear hS
        generalize w7.drew = v0 at BX ⊢
        refine Held.t_load (i := 0) rfl rfl (by kernel_rfl) (by kernel_rfl) (by kernel_rfl) BX.out _ _ rfl _ rfl (fun w' hw' => S0.out.a.below hw' S0.out.la) Try.underlying48 rfl info16 ?_
        simp only [Act.put, List.setIfInBounds_toArray, List.set_cons_zero, List.set_cons_succ]
        refine Held.t_move (i := 1) rfl rfl (by kernel_rfl) (by kernel_rfl) (by kernel_rfl) BX.out _ rfl (.slice (some ⟨g7, 0, none⟩) (ms.length + 1) cap7) rfl ?_
        simp only [Act.put, List.setIfInBounds_toArray, List.set_cons_zero, List.set_cons_succ]
        refine Held.t_move (i := 2) rfl rfl (by kernel_rfl) (by kernel_rfl) (by kernel_rfl) BX.out _ rfl (.slice p ms.length c) rfl ?_
        simp only [Act.put, List.setIfInBounds_toArray, List.set_cons_zero, List.set_cons_succ]
        refine Held.t_val (i := 3) rfl rfl (by kernel_rfl) (by kernel_rfl) (by kernel_rfl) BX.out (.int .i64 ms.length) (fun w' _ => Sl.x_len _ _ _ rfl p ms.length c rfl Try.underlying49 w') ?_
        simp only [Act.put, List.setIfInBounds_toArray, List.set_cons_zero, List.set_cons_succ]
        refine Held.t_val (i := 4) rfl rfl (by kernel_rfl) (by kernel_rfl) (by kernel_rfl) BX.out (.slice (some ⟨g7, 0, none⟩) ms.length cap7) (fun w' _ => Sl.x_head _ _ rfl g7 0 (ms.length + 1) cap7 ms.length rfl rfl (by omega) w') ?_
        simp only [Act.put, List.setIfInBounds_toArray, List.set_cons_zero, List.set_cons_succ]
        have SMs : Hid (SL w7 (some ⟨g7, 0, none⟩) ms) := Lib.hid (by have := SM.out.take ms.length; rwa [List.take_left] at this)
        refine Held.t_two (i := 5) (j := 6) rfl rfl rfl rfl (by kernel_rfl) ?_ ?_
        · refine Held.w_call 18 _ _ rfl Try.func18 (by kernel_rfl) rfl [B16 a, .slice (some ⟨g7, 0, none⟩) ms.length cap7] rfl (polyval_sl a ms (some ⟨g7, 0, none⟩) cap7 v0 HN2.out (SMs.out.keep BX.out) (by omega)) ?_
          intro v1 hb1
          have BX1 := Lib.hid (BX.out.trans (hb1.mono BX.out.size))
          refine ⟨BX1.out, ?_⟩
          simp only [Act.put, List.setIfInBounds_toArray, List.set_cons_zero, List.set_cons_succ]
          refine Held.t_one (i := 6) rfl rfl (by kernel_rfl) ?_
          refine Sl.w_alloc rfl ?_
          intro X v2 hX hA2 hb2
          have XG : Hid (w7.heap.size ≤ X) := Lib.hid (by rw [hX]; exact BX1.out.size)
          have BX2 := Lib.hid (BX1.out.trans (hb2.mono BX1.out.size))
          refine ⟨BX2.out, ?_⟩
          simp only [Act.put, List.setIfInBounds_toArray, List.set_cons_zero, List.set_cons_succ]
          refine Held.t_one (i := 7) rfl rfl (by kernel_rfl) ?_
          refine Sl.w_store _ _ _ rfl X rfl (f := fun i => (byt (polyN a ms) i : Int)) rfl hA2 info16 ?_
          intro v3 hA3 hG3 hS3
          have BX3 := Lib.hid (BX2.out.trans (Held.gb_below (B := w7.heap.size) hG3 BX2.out.size (by intro q hq; cases hq; exact XG.out)))
          refine ⟨BX3.out, ?_⟩
          simp only [Act.put]
          refine Held.t_end (by kernel_rfl) ?_
          go_wp2_with fail
          go_meet
          case rel => exact ⟨X, rfl, BX3.out, hA3⟩
        · refine Sl.w_alloc rfl ?_
          intro X v2 hX hA2 hb2
          have XG : Hid (w7.heap.size ≤ X) := Lib.hid (by rw [hX]; exact BX.out.size)
          have BX2 := Lib.hid (BX.out.trans (hb2.mono BX.out.size))
          refine ⟨BX2.out, ?_⟩
          simp only [Act.put, List.setIfInBounds_toArray, List.set_cons_zero, List.set_cons_succ]
          refine Held.t_one (i := 5) rfl rfl (by kernel_rfl) ?_
          refine Held.w_call 18 _ _ rfl Try.func18 (by kernel_rfl) rfl [B16 a, .slice (some ⟨g7, 0, none⟩) ms.length cap7] rfl (polyval_sl a ms (some ⟨g7, 0, none⟩) cap7 v2 HN2.out (SMs.out.keep BX2.out) (by omega)) ?_
          intro v1 hb1
          have BX1 := Lib.hid (BX2.out.trans (hb1.mono BX2.out.size))
          refine ⟨BX1.out, ?_⟩
          simp only [Act.put, List.setIfInBounds_toArray, List.set_cons_zero, List.set_cons_succ]
          refine Held.t_one (i := 7) rfl rfl (by kernel_rfl) ?_
          refine Sl.w_store _ _ _ rfl X rfl (f := fun i => (byt (polyN a ms) i : Int)) rfl (hA2.below hb1 hA2.lt) info16 ?_
          intro v3 hA3 hG3 hS3
          have BX3 := Lib.hid (BX1.out.trans (Held.gb_below (B := w7.heap.size) hG3 BX1.out.size (by intro q hq; cases hq; exact XG.out)))
          refine ⟨BX3.out, ?_⟩
          simp only [Act.put]
          refine Held.t_end (by kernel_rfl) ?_
          go_wp2_with fail
          go_meet
          case rel => exact ⟨X, rfl, BX3.out, hA3⟩
      obtain ⟨X, rfl, hbx, hax⟩ := hcut
      have S8 := Lib.hid (S0.out.below hbx)
      have SM8 := Lib.hid (SM.out.keep hbx)
      have X8 := Lib.hid hax
      clear hbx hax S0 SM
      have MR : Hid (g7 < wc.heap.size ∧ ∀ i, i < ms.length + 1 → wc.rangeAt g7 (0 + i * 16) (arr .u8 16 fun j => (byt ((ms ++ [7]).getD i 0) j : Int)).toList) := Lib.hid (by
        rcases SM8.out with ⟨h1, _⟩ | ⟨b1, o1, h1, h2, h3⟩
        · cases h1
        · cases h1; exact ⟨h2, fun i hi => h3 i (by simp; omega)⟩)
      go_wp2_with fail
      go_loopw [10] (fun i wr => ∃ k : Nat, k ≤ ms.length ∧ i = .int .i64 k ∧ Below wc.heap.size wc wr) (fun i _ => ms.length - (intOf i).toNat)
      case atStart => exact ⟨0, by omega, rfl, Below.refl _ _⟩
      case round =>
        obtain ⟨k, hk, rfl, hbw⟩ := hrel
        have BW := Lib.hid hbw
        clear hbw
        have S9 := Lib.hid (S8.out.below BW.out)
        have LE : Hid (wr.heap.size ≤ wr.heap.size) := Lib.hid (Nat.le_refl _)
        have M9 : Hid (∀ i, i < ms.length + 1 → ∀ w', Below wr.heap.size wr w' → w'.rangeAt g7 (0 + i * 16) (arr .u8 16 fun j => (byt ((ms ++ [7]).getD i 0) j : Int)).toList) := Lib.hid fun i hi w' hw' j v hv => by
          rw [hw'.cell (p := ⟨g7, 0 + i * 16 + j, none⟩) (by show g7 < _; have := MR.out.1; have := BW.out.size; omega), BW.out.cell (p := ⟨g7, 0 + i * 16 + j, none⟩) MR.out.1]
          exact MR.out.2 i hi j v hv
        by_cases hlt : k < ms.length
        · go_upto_region 13 with fail
          refine wp_region_lit ?_
          refine Held.p_move rfl _ rfl (.int .i64 k) rfl ?_
          simp only [Act.put, List.setIfInBounds_toArray, List.set_cons_zero, List.set_cons_succ]
          refine Held.p_move rfl _ rfl (.slice p ms.length c) rfl ?_
          simp only [Act.put, List.setIfInBounds_toArray, List.set_cons_zero, List.set_cons_succ]
          refine Held.p_len rfl _ _ _ rfl p ms.length c rfl Try.underlying49 ?_
          simp only [Act.put, List.setIfInBounds_toArray, List.set_cons_zero, List.set_cons_succ]
          refine Held.p_lss rfl _ _ _ _ rfl k ms.length rfl rfl true (decide_eq_true hlt) ?_
          simp only [Act.put, List.setIfInBounds_toArray, List.set_cons_zero, List.set_cons_succ]
          refine Held.p_nil ?_
          go_upto_region 15 with fail
          rcases HS2.out with ⟨rfl, h0⟩ | ⟨bl, off, rfl, hbl, hblk⟩
          · rw [h0] at hlt; exact absurd hlt (by simp)
          have RL : Hid (∀ w', Below wr.heap.size wr w' → w'.rangeAt bl (off + k * 16) (arr .u8 16 fun j => (byt (ms.getD k 0) j : Int)).toList) := Lib.hid fun w' hw' j v hv => by
            have h1 := S9.out.size
            rw [hw'.cell (p := ⟨bl, off + k * 16 + j, none⟩) (by show bl < _; omega), S9.out.bel.cell (p := ⟨bl, off + k * 16 + j, none⟩) hbl]
            exact hblk k hlt j v hv
          have RM : Hid (∀ w', Below wr.heap.size wr w' → w'.rangeAt g7 (0 + k * 16) (arr .u8 16 fun j => (byt (ms.getD k 0) j : Int)).toList) := Lib.hid (by
            have h1 := M9.out k (by omega)
            have e1 : (ms ++ [7]).getD k 0 = ms.getD k 0 := by simp [List.getD_eq_getElem?_getD, List.getElem?_append_left hlt]
            rw [e1] at h1
            exact h1)
          have NK : Hid (ms.getD k 0 < 2 ^ 128) := Lib.hid (HN2.out _ (by simp [List.getD_eq_getElem?_getD, List.getElem?_eq_getElem hlt]))
          clear hblk hbl
          generalize ms.getD k 0 = nk at RL RM NK
          refine Eqs.wp_region_class (C := fun w' => Below wr.heap.size wr w') (by kernel_rfl) (by kernel_rfl) (Below.refl _ _).drew ?_
          refine Eqs.q_move rfl _ rfl (.slice (some ⟨g7, 0, none⟩) (ms.length + 1) cap7) rfl ?_
          simp only [Act.put, List.setIfInBounds_toArray, List.set_cons_zero, List.set_cons_succ]
          refine Eqs.q_move rfl _ rfl (.int .i64 k) rfl ?_
          simp only [Act.put, List.setIfInBounds_toArray, List.set_cons_zero, List.set_cons_succ]
          refine Ref.q_index rfl _ _ _ _ rfl g7 0 (ms.length + 1) cap7 rfl k rfl (by omega) 16 Try.underlying49 info16 ?_
          simp only [Act.put, List.setIfInBounds_toArray, List.set_cons_zero, List.set_cons_succ]
          refine Ref.q_load_mid rfl _ _ rfl g7 _ rfl RM.out Try.underlying48 rfl info16 ?_
          simp only [Act.put, List.setIfInBounds_toArray, List.set_cons_zero, List.set_cons_succ]
          refine Eqs.q_move rfl _ rfl (.slice (some ⟨bl, off, none⟩) ms.length c) rfl ?_
          simp only [Act.put, List.setIfInBounds_toArray, List.set_cons_zero, List.set_cons_succ]
          refine Eqs.q_move rfl _ rfl (.int .i64 k) rfl ?_
          simp only [Act.put, List.setIfInBounds_toArray, List.set_cons_zero, List.set_cons_succ]
          refine Ref.q_index rfl _ _ _ _ rfl bl off ms.length c rfl k rfl hlt 16 Try.underlying49 info16 ?_
          simp only [Act.put, List.setIfInBounds_toArray, List.set_cons_zero, List.set_cons_succ]
          refine Ref.q_load_mid rfl _ _ rfl bl _ rfl RL.out Try.underlying48 rfl info16 ?_
          simp only [Act.put, List.setIfInBounds_toArray, List.set_cons_zero, List.set_cons_succ]
          refine Eqs.q_neq rfl _ _ _ _ rfl nk nk rfl rfl Try.underlying48 Try.underlying5 (by kernel_rfl) (by kernel_rfl) NK.out NK.out false (Eqs.ne_false rfl) ?_
          simp only [Act.put, List.setIfInBounds_toArray, List.set_cons_zero, List.set_cons_succ]
          refine wpQuiet_nil ?_
          intro w9 hs9
          have B9 := Lib.hid (BW.out.trans (hs9.mono BW.out.size))
          clear hs9
          go_wp2_with fail
          go_roundw
          case rel => exact ⟨k + 1, by omega, by go_num, B9.out⟩
          case measure => simp [intOf]; omega
        · obtain rfl : k = ms.length := by omega
          go_upto_region 13 with fail
          refine wp_region_lit ?_
          refine Held.p_move rfl _ rfl (.int .i64 ms.length) rfl ?_
          simp only [Act.put, List.setIfInBounds_toArray, List.set_cons_zero, List.set_cons_succ]
          refine Held.p_move rfl _ rfl (.slice p ms.length c) rfl ?_
          simp only [Act.put, List.setIfInBounds_toArray, List.set_cons_zero, List.set_cons_succ]
          refine Held.p_len rfl _ _ _ rfl p ms.length c rfl Try.underlying49 ?_
          simp only [Act.put, List.setIfInBounds_toArray, List.set_cons_zero, List.set_cons_succ]
          refine Held.p_lss rfl _ _ _ _ rfl ms.length ms.length rfl rfl false (decide_eq_false (Nat.lt_irrefl _)) ?_
          simp only [Act.put, List.setIfInBounds_toArray, List.set_cons_zero, List.set_cons_succ]
          refine Held.p_nil ?_
          go_upto_region 17 with fail
          have X9 : Hid (Arr wr X .u8 16 48 (fun i => (byt (polyN a ms) i : Int)) ∧ X < wr.heap.size) := Lib.hid ⟨X8.out.below BW.out X8.out.lt, Nat.lt_of_lt_of_le X8.out.lt BW.out.size⟩
          have R7 : Hid (∀ w', Below wr.heap.size wr w' → w'.rangeAt g7 (0 + ms.length * 16) (arr .u8 16 fun j => (byt 7 j : Int)).toList) := Lib.hid (by
            have h1 := M9.out ms.length (by omega)
            have e1 : (ms ++ [7]).getD ms.length 0 = 7 := by simp [List.getD_eq_getElem?_getD]
            rw [e1] at h1
            exact h1)
          have PB : Hid (polyN a ms < 2 ^ 128) := Lib.hid (polyN_bound a ms HN2.out)
          refine Eqs.wp_region_class (C := fun w' => Below wr.heap.size wr w') (by kernel_rfl) (by kernel_rfl) (Below.refl _ _).drew ?_
          refine Eqs.q_load rfl 48 _ rfl _ rfl (fun _ hs => X9.out.1.below hs X9.out.2) Try.underlying48 rfl info16 ?_
          simp only [Act.put, List.setIfInBounds_toArray, List.set_cons_zero, List.set_cons_succ]
          refine Eqs.q_load rfl 48 _ rfl _ rfl (fun _ hs => S9.out.a.below hs S9.out.la) Try.underlying48 rfl info16 ?_
          simp only [Act.put, List.setIfInBounds_toArray, List.set_cons_zero, List.set_cons_succ]
          refine Eqs.q_move rfl _ rfl (.slice p ms.length c) rfl ?_
          simp only [Act.put, List.setIfInBounds_toArray, List.set_cons_zero, List.set_cons_succ]
          refine Eqs.q_call rfl 25 _ _ rfl Try.func25 (by kernel_rfl) rfl _ [B16 a, .slice p ms.length c] rfl (fun w' hw' => (Ref.rpolyval_sl a ha ms p c w' HN2.out ((HS2.out.keep (S9.out.bel)).keep hw') (by omega)).mono fun e w2 ⟨he, hb⟩ => ⟨he, hw'.trans (hb.mono (Nat.le_trans LE.out hw'.size))⟩) ?_
          simp only [Act.put, List.setIfInBounds_toArray, List.set_cons_zero, List.set_cons_succ]
          refine Eqs.q_eql rfl _ _ _ _ rfl (polyN a ms) (polyN a ms) rfl rfl Try.underlying48 Try.underlying5 (by kernel_rfl) (by kernel_rfl) PB.out PB.out true (Eqs.eq_true rfl) ?_
          simp only [Act.put, List.setIfInBounds_toArray, List.set_cons_zero, List.set_cons_succ]
          refine Eqs.q_move rfl _ rfl (.bool true) rfl ?_
          simp only [Act.put, List.setIfInBounds_toArray, List.set_cons_zero, List.set_cons_succ]
          refine Eqs.q_move rfl _ rfl (.slice (some ⟨g7, 0, none⟩) (ms.length + 1) cap7) rfl ?_
          simp only [Act.put, List.setIfInBounds_toArray, List.set_cons_zero, List.set_cons_succ]
          refine Eqs.q_move rfl _ rfl (.slice p ms.length c) rfl ?_
          simp only [Act.put, List.setIfInBounds_toArray, List.set_cons_zero, List.set_cons_succ]
          refine Ref.q_len rfl _ _ _ rfl p ms.length c rfl Try.underlying49 ?_
          simp only [Act.put, List.setIfInBounds_toArray, List.set_cons_zero, List.set_cons_succ]
          refine Ref.q_index rfl _ _ _ _ rfl g7 0 (ms.length + 1) cap7 rfl ms.length rfl (by omega) 16 Try.underlying49 info16 ?_
          simp only [Act.put, List.setIfInBounds_toArray, List.set_cons_zero, List.set_cons_succ]
          refine Ref.q_load_mid rfl _ _ rfl g7 _ rfl R7.out Try.underlying48 rfl info16 ?_
          simp only [Act.put, List.setIfInBounds_toArray, List.set_cons_zero, List.set_cons_succ]
          refine Eqs.q_build rfl _ [(0, .const (.int .u8 7))] rfl (B16 7) [(0, .int .u8 7)] rfl Sl.build7 ?_
          simp only [Act.put, List.setIfInBounds_toArray, List.set_cons_zero, List.set_cons_succ]
          refine Eqs.q_eql rfl _ _ _ _ rfl 7 7 rfl rfl Try.underlying48 Try.underlying5 (by kernel_rfl) (by kernel_rfl) (by decide) (by decide) true (Eqs.eq_true rfl) ?_
          simp only [Act.put, List.setIfInBounds_toArray, List.set_cons_zero, List.set_cons_succ]
          refine Eqs.q_pick rfl _ _ _ rfl _ rfl (.bool true) rfl ?_
          simp only [Act.put, List.setIfInBounds_toArray, List.set_cons_zero, List.set_cons_succ]
          refine Eqs.q_assign rfl _ rfl (.bool true) rfl ?_
          simp only [Act.put, List.setIfInBounds_toArray, List.set_cons_zero, List.set_cons_succ]
          refine wpQuiet_nil ?_
          intro w10 hs10
          have S10 := Lib.hid (S9.out.below hs10)
          go_wp2_with fail
          go_ret
          exact ⟨rfl, S10.out.bel⟩
end Go.Proofs.Ytfchbodbkdkcfaa.TFields
