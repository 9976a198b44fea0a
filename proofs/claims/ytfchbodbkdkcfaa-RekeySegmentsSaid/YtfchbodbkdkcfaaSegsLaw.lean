/- RekeySegments answers true. -/
import Derived.Test.YtfchbodbkdkcfaaSpoil
namespace Go.Proofs.Ytfchbodbkdkcfaa.Coll
open Go.RowKit

theorem own_below {w w' : World} {B : Nat} {e : TypeId} {size : Nat} {v : Value} {n : Nat} {xs : List Value} (h : w.ownsRow B e size v n xs) (hb : Below w.heap.size w w') : w'.ownsRow B e size v n xs := by
  refine ⟨h.1, ?_⟩
  have hl := h.lt
  rcases h.2 with h' | ⟨g, cap, cur, rfl, h1, h2, h3⟩
  · exact .inl h'
  · exact .inr ⟨g, cap, cur, rfl, h1, by rw [hb.block g (hl g rfl).2]; exact h2, h3⟩
def r2 : Rot := ⟨true, 0, 1, false, 0, 0, 2, 0, 0, false, 0, ⟨#[]⟩⟩
theorem e_two : segsE 5 r2 = 0 := by decide
/-- a list of the call's own, its block among those from lo on and below hi -/
structure Own (w : World) (lo hi : Nat) (v : Value) (L : List Sg) : Prop where
  own : w.ownsRow lo 59 3 v L.length (sgL L)
  lt : ∀ g, v.ownBlock = some g → g < hi
theorem Own.made {w : World} {lo : Nat} {v : Value} {L : List Sg} (h : w.ownsRow lo 59 3 v L.length (sgL L)) : Own w lo w.heap.size v L := ⟨h, fun g hg => (h.lt g hg).2⟩
theorem Own.below {w w' : World} {lo hi : Nat} {v : Value} {L : List Sg} (h : Own w lo hi v L) (hb : Below w.heap.size w w') : Own w' lo hi v L := ⟨own_below h.own hb, h.lt⟩
theorem Own.sl {w : World} {lo hi : Nat} {v : Value} {L : List Sg} (h : Own w lo hi v L) : SL w v L := SL.of_own h.own
theorem Own.spoilt {w w' : World} {lo hi : Nat} {v : Value} {L : List Sg} (h : Own w lo hi v L) {b : Option Nat} (hg : w.grownBy w' b) (hb : ∀ g, b = some g → g < lo) : Own w' lo hi v L :=
  ⟨h.own.kept hg (by
    rcases hv : v.ownBlock with _ | g
    · exact .inl rfl
    · refine .inr fun e => ?_
      have h1 := (h.own.lt g hv).1
      have h2 := hb g e.symm
      omega), h.lt⟩

/-- the cells of a rotation -/
theorem rot_cells {wx : World} {b : Nat} {t : TypeId} {on back active : Bool} {fr tn mode hot done off size count : Int} {sum : ByteArray} (h : wx.heap[b]? = some (.cells #[.bool on, .int .u64 fr, .int .u64 tn, .bool back, .int .i64 mode, .int .u64 hot, .int .u64 done, .int .i64 off, .int .i64 size, .bool active, .int .u64 count, .string sum] t (0, 0))) :
    wx.cell? ⟨b, 0, none⟩ = some (.bool on) ∧ wx.cell? ⟨b, 1, none⟩ = some (.int .u64 fr) ∧ wx.cell? ⟨b, 2, none⟩ = some (.int .u64 tn) ∧ wx.cell? ⟨b, 3, none⟩ = some (.bool back) ∧ wx.cell? ⟨b, 4, none⟩ = some (.int .i64 mode) ∧ wx.cell? ⟨b, 5, none⟩ = some (.int .u64 hot) ∧ wx.cell? ⟨b, 6, none⟩ = some (.int .u64 done) ∧ wx.cell? ⟨b, 7, none⟩ = some (.int .i64 off) ∧ wx.cell? ⟨b, 8, none⟩ = some (.int .i64 size) ∧ wx.cell? ⟨b, 9, none⟩ = some (.bool active) ∧ wx.cell? ⟨b, 10, none⟩ = some (.int .u64 count) ∧ wx.cell? ⟨b, 11, none⟩ = some (.string sum) := by
  refine ⟨?_, ?_, ?_, ?_, ?_, ?_, ?_, ?_, ?_, ?_, ?_, ?_⟩ <;> rw [cell_of_row wx b _ _ _ _ h] <;> rfl

set_option maxRecDepth 100000 in
set_option maxHeartbeats 4000000 in
theorem law_any (n : Int) (r : Rot) (w : World) (hn0 : 0 ≤ n) (hn1 : n < 18446744073709551616) (h0 : 0 ≤ r.done) (h1 : r.done < 18446744073709551616) :
    Calls Try.prog 7 #[.int .u64 n, rotV r] w fun e w' => e = .returned (.bool true) ∧ Below w.heap.size w w' := by
  have HA := Lib.hid (fun w => rekSegments_any n r w hn0 hn1 h0 h1)
  have HR := Lib.hid (fun w => refSegments_any n r w hn0 hn1 h0 h1)
  have HX := Lib.hid (fun w => rekSegments_any 5 r2 w (by decide) (by decide) (by decide) (by decide))
  have HY := Lib.hid (fun w => refSegments_any 5 r2 w (by decide) (by decide) (by decide) (by decide))
  rw [e_two] at HX HY
  have hl2 : Hid ((segsL n r).length ≤ 2) := Lib.hid (by unfold segsL segsR; split <;> first | exact segsOf_len _ _ _ _ | simp)
  generalize segsE n r = E at HA HR
  generalize segsL n r = L at HA HR hl2
  generalize segsL 5 r2 = L2 at HX HY
  unfold rotV rotC r2 at HX HY
  obtain ⟨on, fr, tn, back, mode, hot, done, off, size, active, count, sum⟩ := r
  unfold rotV rotC at HA HR ⊢
  simp only at HA HR HX HY ⊢
  have B0 := Lib.hid ((Below.refl w.heap.size w).alloc (Nat.le_refl _) (.cells #[.bool on, .int .u64 fr, .int .u64 tn, .bool back, .int .i64 mode, .int .u64 hot, .int .u64 done, .int .i64 off, .int .i64 size, .bool active, .int .u64 count, .string sum] 29))
  have R0 := Lib.hid (heap_alloc_new w (.cells #[.bool on, .int .u64 fr, .int .u64 tn, .bool back, .int .i64 mode, .int .u64 hot, .int .u64 done, .int .i64 off, .int .i64 size, .bool active, .int .u64 count, .string sum] 29))
  clear h0 h1
  go_enter Try.func7, Try.ntmps7
  go_upto_region 1 with fail
  generalize w.alloc (.cells #[.bool on, .int .u64 fr, .int .u64 tn, .bool back, .int .i64 mode, .int .u64 hot, .int .u64 done, .int .i64 off, .int .i64 size, .bool active, .int .u64 count, .string sum] 29) = w0 at *
  obtain ⟨p0, p1, p2, p3, p4, p5, p6, p7, p8, p9, p10, p11⟩ := rot_cells R0.out
  go_upto_region 2 with (go_at_call 12; refine (HA.out w0).mono ?_; rintro e w1 ⟨va, rfl, hra, hb1⟩; have Ow1 := Lib.hid (Own.made hra); have Xw1 := Lib.hid hb1; clear hra hb1; clear p0 p1 p2 p3 p4 p5 p6 p7 p8 p9 p10 p11)
  go_upto_region 3 with (go_at_call 12; refine (HX.out w1).mono ?_; rintro e w2 ⟨vx, rfl, hra, hb1⟩; have Ow2 := Lib.hid (Own.made hra); have Xw2 := Lib.hid hb1; clear hra hb1)
  have R2 := (Xw2.out.block _ (Nat.lt_of_lt_of_le (Array.getElem?_eq_some_iff.1 R0.out).1 Xw1.out.size)).trans ((Xw1.out.block _ (Array.getElem?_eq_some_iff.1 R0.out).1).trans R0.out)
  have HR2 := Lib.hid R2
  obtain ⟨q0, q1, q2, q3, q4, q5, q6, q7, q8, q9, q10, q11⟩ := rot_cells R2
  clear R2
  go_upto_region 4 with (go_at_call 12; refine (HA.out w2).mono ?_; rintro e w3 ⟨vb, rfl, hra, hb1⟩; have Ow3 := Lib.hid (Own.made hra); have Xw3 := Lib.hid hb1; clear hra hb1; clear q0 q1 q2 q3 q4 q5 q6 q7 q8 q9 q10 q11)
  have R3 := (Xw3.out.block _ (Array.getElem?_eq_some_iff.1 HR2.out).1).trans HR2.out
  obtain ⟨s0, s1, s2, s3, s4, s5, s6, s7, s8, s9, s10, s11⟩ := rot_cells R3
  clear R3
  go_upto_region 5 with (go_at_call 13; refine (HR.out w3).mono ?_; rintro e w4 ⟨vw, rfl, hra, hb1⟩; have Ow4 := Lib.hid (Own.made hra); have Xw4 := Lib.hid hb1; clear hra hb1; clear s0 s1 s2 s3 s4 s5 s6 s7 s8 s9 s10 s11)
  go_upto_region 6 with (go_at_call 13; refine (HY.out w4).mono ?_; rintro e w5 ⟨vy, rfl, hra, hb1⟩; have Ow5 := Lib.hid (Own.made hra); have Xw5 := Lib.hid hb1; clear hra hb1)
  have b01 := Xw1.out.size
  have b12 := Xw2.out.size
  have b23 := Xw3.out.size
  have b34 := Xw4.out.size
  have b45 := Xw5.out.size
  have a5 := (((Ow1.out.below Xw2.out).below Xw3.out).below Xw4.out).below Xw5.out
  have x5 := ((Ow2.out.below Xw3.out).below Xw4.out).below Xw5.out
  have c5 := (Ow3.out.below Xw4.out).below Xw5.out
  have d5 := Ow4.out.below Xw5.out
  have y5 := Ow5.out
  have t5 : Below w.heap.size w w5 := B0.out.trans ((((Xw1.out.trans (Xw2.out.mono b01)).trans (Xw3.out.mono (by omega))).trans (Xw4.out.mono (by omega))).trans (Xw5.out.mono (by omega)) |>.mono B0.out.size)
  have AA := Lib.hid a5
  have XX := Lib.hid x5
  have BB := Lib.hid c5
  have DD := Lib.hid d5
  have YY := Lib.hid y5
  have TT := Lib.hid t5
  clear a5 x5 c5 d5 y5 t5 Xw1 Xw2 Xw3 Xw4 Xw5 Ow1 Ow2 Ow3 Ow4 Ow5 HR2 R0 HA HX HR HY
  go_wp2_with fail
  refine (num_any _ _).mono ?_; rintro e w6 ⟨rfl, rfl⟩
  go_wp2_with fail
  refine (num_any _ _).mono ?_; rintro e w6 ⟨rfl, rfl⟩
  go_wp2_with fail
  refine (num_any _ _).mono ?_; rintro e w6 ⟨rfl, rfl⟩
  go_wp2_with fail
  refine (sameSegs_any va vw L w5 AA.out.sl DD.out.sl).mono ?_; rintro e w6 ⟨rfl, hb⟩
  have AA6 := Lib.hid (AA.out.below hb)
  have BB6 := Lib.hid (BB.out.below hb)
  have DD6 := Lib.hid (DD.out.below hb)
  have XX6 := Lib.hid (XX.out.below hb)
  have YY6 := Lib.hid (YY.out.below hb)
  have TT6 := Lib.hid (TT.out.trans (hb.mono TT.out.size))
  have b56 := hb.size
  clear AA BB DD XX YY TT hb
  go_wp2_with fail
  refine (sameSegs_any vb vw L w6 BB6.out.sl DD6.out.sl).mono ?_; rintro e w7 ⟨rfl, hb⟩
  have AA := Lib.hid (AA6.out.below hb)
  have BB := Lib.hid (BB6.out.below hb)
  have DD := Lib.hid (DD6.out.below hb)
  have XX := Lib.hid (XX6.out.below hb)
  have YY := Lib.hid (YY6.out.below hb)
  have TT := Lib.hid (TT6.out.trans (hb.mono TT6.out.size))
  have b67 := hb.size
  clear AA6 BB6 DD6 XX6 YY6 TT6 hb
  have bw0 := B0.out.size
  obtain ⟨q, cp, rfl⟩ : ∃ q cp, va = .slice q L.length cp := by
    rcases AA.out.own.2 with ⟨h, h0⟩ | ⟨g, cap, _, h, _⟩
    · exact ⟨_, _, by rw [h0]; exact h⟩
    · exact ⟨_, _, h⟩
  go_wp2_with fail
  refine (spoil_any (.slice q L.length cp) L.length w0.heap.size (sgL L) w7 (by omega) hl2.out AA.out.own).mono ?_; rintro e w8 ⟨⟨ve, rfl⟩, hg⟩
  have hva : ∀ g, (Value.slice q L.length cp).ownBlock = some g → w0.heap.size ≤ g ∧ g < w1.heap.size := fun g hg => ⟨(AA.out.own.lt g hg).1, AA.out.lt g hg⟩
  have BB8 := Lib.hid (BB.out.spoilt hg (fun g h => by have := hva g h; omega))
  have DD8 := Lib.hid (DD.out.spoilt hg (fun g h => by have := hva g h; omega))
  have XX8 := Lib.hid (XX.out.spoilt hg (fun g h => by have := hva g h; omega))
  have YY8 := Lib.hid (YY.out.spoilt hg (fun g h => by have := hva g h; omega))
  have TT8 := Lib.hid (TT.out.grown hg TT.out.size (fun g h => by have := hva g h; omega))
  clear AA BB DD XX YY TT hg hva
  go_wp2_with fail
  refine (sameSegs_any vb vw L w8 BB8.out.sl DD8.out.sl).mono ?_; rintro e w9 ⟨rfl, hb⟩
  have XX9 := Lib.hid (XX8.out.below hb)
  have YY9 := Lib.hid (YY8.out.below hb)
  have TT9 := Lib.hid (TT8.out.trans (hb.mono TT8.out.size))
  clear BB8 DD8 XX8 YY8 TT8 hb
  go_wp2_with fail
  refine (sameSegs_any vx vy L2 w9 XX9.out.sl YY9.out.sl).mono ?_; rintro e w10 ⟨rfl, hb⟩
  have TT10 := Lib.hid (TT9.out.trans (hb.mono TT9.out.size))
  clear hb XX9 YY9 TT9
  go_wp2_with fail
  go_ret
  exact ⟨rfl, TT10.out⟩
end Go.Proofs.Ytfchbodbkdkcfaa.Coll
