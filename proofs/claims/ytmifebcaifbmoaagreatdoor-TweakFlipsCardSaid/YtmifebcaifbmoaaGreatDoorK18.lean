/- Parts of the proof of TweakFlips. Decode: tweak: a block decrypted by a scheduled key; what keys do, there and back. Region: A region that draws its order: reads and calls that keep a class of worlds, and one last operation that waits for all others. General lemmas. -/
import Derived.Test.YtmifebcaifbmoaaGreatDoorK17
import Derived.Test.YtmifebcaifbmoaaGreatDoorK00
import Derived.StillTail
import Derived.Deep.QuietTactic
import Derived.BigQuiet
/- Decode -/
section
namespace Go.Proofs.YtmifebcaifbmoaaGreatDoor.Tw
open Go.RowKit Go.Lib Go.Proofs.YtmifebcaifbmoaaGreatDoor.Blk Go.Proofs.YtmifebcaifbmoaaGreatDoor.Aes Go.Proofs.YtmifebcaifbmoaaGreatDoor.Rj Go.Proofs.YtmifebcaifbmoaaGreatDoor.Field Go.Proofs.YtmifebcaifbmoaaGreatDoor.Poly

/-- a block decrypted, blocks as numbers -/
def decN (k : Nat → Nat → Nat) (nr n : Nat) : Nat := lowN (decB k nr (byt n)) 16
def keyD (key : Nat → Nat) (nk n : Nat) : Nat := decN (rk nk key) (nk + 6) n
theorem byt_decN (k : Nat → Nat → Nat) (nr n : Nat) (h : Byt (decB k nr (byt n)) 16) : ∀ i, i < 16 → byt (decN k nr n) i = decB k nr (byt n) i := fun i hi => by
  unfold decN
  have : lowN (decB k nr (byt n)) 16 = lowN (fun i => decB k nr (byt n) i % 256) 16 := lowN_congr fun i hi => (Nat.mod_eq_of_lt (h i hi)).symm
  rw [this]
  rw [byt_lowN (fun _ => Nat.mod_lt _ (by decide)) hi]
  exact Nat.mod_eq_of_lt (h i hi)
theorem decN_lt (k : Nat → Nat → Nat) (nr n : Nat) (h : Byt (decB k nr (byt n)) 16) : decN k nr n < 2 ^ 128 := by
  unfold decN
  have : lowN (decB k nr (byt n)) 16 = lowN (fun i => decB k nr (byt n) i % 256) 16 := lowN_congr fun i hi => (Nat.mod_eq_of_lt (h i hi)).symm
  rw [this]
  exact lowN_lt _ (fun _ => Nat.mod_lt _ (by decide)) 16
section
variable {key : Nat → Nat} {nk : Nat} (hk : Byt key (4 * nk)) (h1 : 1 ≤ nk)
include hk h1
theorem keyE_lt (n : Nat) : keyE key nk n < 2 ^ 128 := encN_lt _ _ _ (encB_byt (fun i _ => byt_lt n i) (rk_byt hk h1))
theorem keyD_lt (n : Nat) : keyD key nk n < 2 ^ 128 := decN_lt _ _ _ (decB_byt (fun i _ => byt_lt n i) (rk_byt hk h1))
theorem keyE_keyD {n : Nat} (hn : n < 2 ^ 128) : keyE key nk (keyD key nk n) = n := by
  have kb := rk_byt hk h1
  refine num_ext (keyE_lt hk h1 _) hn fun i hi => ?_
  unfold keyE
  rw [byt_encN _ _ _ (encB_byt (fun i _ => byt_lt _ i) kb) i hi]
  have e : ∀ i, i < 16 → byt (keyD key nk n) i = decB (rk nk key) (nk + 6) (byt n) i := byt_decN _ _ _ (decB_byt (fun i _ => byt_lt n i) kb)
  rw [encB_congr e (fun _ _ _ _ => rfl) i hi]
  exact enc_dec (by omega) kb (fun i _ => byt_lt n i) i hi
theorem keyD_inj {a b : Nat} (ha : a < 2 ^ 128) (hb : b < 2 ^ 128) (h : keyD key nk a = keyD key nk b) : a = b := by
  rw [← keyE_keyD hk h1 ha, ← keyE_keyD hk h1 hb, h]
end
set_option maxRecDepth 100000 in
set_option maxHeartbeats 4000000 in
theorem decode_any (key : Nat → Nat) (nk : Nat) (v : Value) (n : Nat) (w : World) (hK : Sched key nk v w) :
    Calls Tryz.prog 109 #[v, B16 n] w fun e w' => e = .returned (B16 (keyD key nk n)) ∧ Below w.heap.size w w' := by
  obtain ⟨hnk, hkey, tb, wb, bb, kb, rfl, hK⟩ := hK
  have z16 : (Tryz.prog.info? 27).bind (·.zero) = some (.agg (arr .u8 16 fun _ => 0)) := by kernel_rfl
  have hkb := rk_byt hkey (by omega)
  have EN := Lib.hid (fun w h => decryptKey_any (4 * nk : Nat) (rk nk key) (nk + 6) (by omega) (by omega) hkb (byt n) (fun i _ => byt_lt n i) tb wb bb kb w h)
  have HB : Hid (Byt (decB (rk nk key) (nk + 6) (byt n)) 16) := Lib.hid (decB_byt (fun i _ => byt_lt n i) hkb)
  have HK := Lib.hid hK
  clear hK hkb hkey
  go_enter Tryz.func109, Tryz.ntmps109
  go_upto_region 0 with fail
  refine wp_region_lit ?_
  refine New.p_box rfl 27 _ rfl .u8 16 (fun i => ((byt n i : Nat) : Int)) rfl ?_
  intro w1 a1 g1 s1
  simp only [Act.put, List.setIfInBounds_toArray, List.set_cons_zero, List.set_cons_succ]
  refine New.p_newarr rfl 27 rfl .u8 16 z16 ?_
  intro w2 a2 g2 s2
  simp only [Act.put, List.setIfInBounds_toArray, List.set_cons_zero, List.set_cons_succ]
  rw [s1] at a2 s2 ⊢
  refine wpList_nil ?_
  have A1 := Lib.hid (bel_arr (_B := 0) a1 (bel_of_gb (_B := 0) g2))
  have A2 := Lib.hid a2
  have B2 := Lib.hid (((Below.refl w.heap.size w).grown g1 (Nat.le_refl _) (by simp)).grown g2 (by omega) (by simp))
  clear a1 g1 s1 a2 g2 s2
  go_upto_region 1 with fail
  refine wp_region_lit ?_
  refine Step.p_move rfl _ rfl (.pointer (some ⟨kb, 0, none⟩)) rfl ?_
  simp only [Act.put, List.setIfInBounds_toArray, List.set_cons_zero, List.set_cons_succ]
  refine Step.p_load rfl 27 _ rfl _ rfl A1.out Tryz.underlying27 rfl Field.info16 ?_
  simp only [Act.put, List.setIfInBounds_toArray, List.set_cons_zero, List.set_cons_succ]
  refine Step.p_wp rfl (Step.w_callx 157 [.tmp 8, .tmp 9] _ rfl Tryz.func157 (by kernel_rfl) rfl [.pointer (some ⟨kb, 0, none⟩), .agg (arr .u8 16 fun i => ((byt n i : Nat) : Int))] rfl (EN.out _ (HK.out.below B2.out)) ?_)
  rintro e w3 ⟨rfl, hb⟩
  refine ⟨_, rfl, ?_⟩
  simp only [Act.put, List.setIfInBounds_toArray, List.set_cons_zero, List.set_cons_succ]
  have E : Hid (arr .u8 16 (fun i => ((thrB mD U 3 (backK (rk nk key) (nk + 6)) (nk + 6) (byt n) i : Nat) : Int)) = arr .u8 16 fun i => ((byt (keyD key nk n) i : Nat) : Int)) := Lib.hid (arr_congr fun i hi => by unfold keyD; rw [byt_decN _ _ _ HB.out i hi]; rfl)
  rw [E.out]
  have A3 := Lib.hid (bel_arr (_B := 0) A2.out hb)
  have B3 := Lib.hid (B2.out.trans (hb.mono B2.out.size))
  clear hb A1 A2 B2 EN HK
  refine Step.p_move rfl _ rfl (.tuple #[B16 (keyD key nk n), .int .i64 0]) rfl ?_
  simp only [Act.put, List.setIfInBounds_toArray, List.set_cons_zero, List.set_cons_succ]
  refine Step.p_val rfl (B16 (keyD key nk n)) (by unfold execOp; go_simp; try rfl) ?_
  simp only [Act.put, List.setIfInBounds_toArray, List.set_cons_zero, List.set_cons_succ]
  refine Step.p_val rfl (.int .i64 0) (by unfold execOp; go_simp; try rfl) ?_
  simp only [Act.put, List.setIfInBounds_toArray, List.set_cons_zero, List.set_cons_succ]
  refine New.p_newarr rfl 27 rfl .u8 16 z16 ?_
  intro w4 a4 g4 s4
  simp only [Act.put, List.setIfInBounds_toArray, List.set_cons_zero, List.set_cons_succ]
  refine Step.p_store 27 _ _ rfl w3.heap.size rfl rfl a4 Field.info16 rfl ?_
  intro w5 a5 g5 s5
  simp only [Act.put]
  refine Step.p_assign rfl _ rfl (.int .i64 0) rfl ?_
  simp only [Act.put, List.setIfInBounds_toArray, List.set_cons_zero, List.set_cons_succ]
  refine wpList_nil ?_
  have A5 := Lib.hid ((bel_arr (_B := 0) A3.out (bel_of_gb (_B := 0) g4)).grown g5 (by have := A3.out.lt; omega))
  have B5 := Lib.hid ((B3.out.grown g4 B3.out.size (by simp)).grown g5 (by have := B3.out.size; omega) (fun j hj => by cases hj; exact B3.out.size))
  have A6 := Lib.hid a5
  clear a4 g4 s4 a5 g5 s5
  go_upto_region 2 with fail
  refine wp_region_lit ?_
  refine Step.p_load rfl 27 _ rfl _ rfl A6.out Tryz.underlying27 rfl Field.info16 ?_
  simp only [Act.put, List.setIfInBounds_toArray, List.set_cons_zero, List.set_cons_succ]
  refine Step.p_store 27 _ _ rfl (w.heap.size + 1) rfl rfl A5.out Field.info16 rfl ?_
  intro w7 a7 g7 s7
  simp only [Act.put]
  refine wpList_nil ?_
  have B7 := Lib.hid (B5.out.grown g7 B5.out.size (fun j hj => by cases hj; exact Nat.le_succ _))
  clear g7
  go_wp2
  exact ret_arr rfl rfl a7 Tryz.underlying27 rfl Field.info16 rfl ⟨rfl, B7.out⟩

theorem doK_decode {key : Nat → Nat} {nk : Nat} {v : Value} {w : World} (h : Sched key nk v w) : G.DoK 109 v (keyD key nk) w := fun n _ w' k => decode_any key nk v n w' (h.kq k)
end Go.Proofs.YtmifebcaifbmoaaGreatDoor.Tw
end

/- Region -/
section
namespace Go.Proofs.YtmifebcaifbmoaaGreatDoor.Reg
open Go.RowKit Go.Lib Go.Proofs.YtmifebcaifbmoaaGreatDoor.Blk

def idle (o : Oper) : Oper := { o with op := .assign (.const undef) }
/-- the list with its last operation made idle -/
def idleLast : List Oper → List Oper
  | [] => []
  | [o] => [idle o]
  | o :: p :: r => o :: idleLast (p :: r)
def lastOf : List Oper → List Oper
  | [] => []
  | [o] => [o]
  | _ :: p :: r => lastOf (p :: r)
/-- what is asked of the region, a Bool -/
def tailB (L : List Oper) : Bool :=
  Region.lexB .any (idleLast L).toArray && Region.sinkB .any L.toArray (L.length - 1) && decide (0 < L.length) &&
  ((lastOf L).all fun o => o.dst.isNone && o.guard.isNone) &&
  (List.range L.length).all fun i => match L[i]? with | some o => o.after.all fun e => !Region.binds .any e || decide (e.on < i) | none => true

theorem idleLast_length : ∀ L : List Oper, (idleLast L).length = L.length
  | [] => rfl
  | [_] => rfl
  | _ :: p :: r => by simp [idleLast, idleLast_length (p :: r)]
theorem idleLast_get : ∀ (L : List Oper) (i : Nat), i + 1 < L.length → (idleLast L)[i]? = L[i]?
  | [], _, h => by simp at h
  | [_], _, h => by simp at h
  | o :: p :: r, 0, _ => rfl
  | o :: p :: r, i + 1, h => by
    simp only [idleLast, List.getElem?_cons_succ]
    exact idleLast_get (p :: r) i (by simpa using h)
theorem idleLast_last : ∀ (L : List Oper) (i : Nat), i + 1 = L.length → ∃ o, L[i]? = some o ∧ lastOf L = [o] ∧ (idleLast L)[i]? = some (idle o)
  | [], _, h => by simp at h
  | [o], i, h => by
    obtain rfl : i = 0 := by simpa using h
    exact ⟨o, rfl, rfl, rfl⟩
  | o :: p :: r, 0, h => by simp at h
  | o :: p :: r, i + 1, h => by
    obtain ⟨q, h1, h2, h3⟩ := idleLast_last (p :: r) i (by simpa using h)
    exact ⟨q, by simpa using h1, h2, by simpa [idleLast] using h3⟩

section
variable {P : Program} {L : List Oper} {C : World → Prop} {Q : Exit → Act → World → Prop}

theorem idle_yielded (t : Array Value) : yielded (idleLast L).toArray t = yielded L.toArray t := by
  funext j
  unfold yielded
  congr 2
  simp only [List.getElem?_toArray]
  by_cases h : j + 1 < L.length
  · rw [idleLast_get L j h]
  · by_cases h' : j + 1 = L.length
    · obtain ⟨o, h1, h2, h3⟩ := idleLast_last L j h'
      rw [h1, h3]
      rfl
    · rw [List.getElem?_eq_none (by rw [idleLast_length]; omega), List.getElem?_eq_none (by omega)]

theorem idle_ready (listed : Array Bool) : Region.ready .any (idleLast L).toArray listed = Region.ready .any L.toArray listed := by
  unfold Region.ready
  simp only [List.size_toArray, idleLast_length]
  apply List.filter_congr
  intro j hj
  have hj' : j < L.length := by simpa using hj
  congr 1
  simp only [List.getElem?_toArray]
  by_cases h : j + 1 < L.length
  · rw [idleLast_get L j h]
  · obtain ⟨o, h1, h2, h3⟩ := idleLast_last L j (by omega)
    rw [h1, h3]
    rfl

/-- how many are not listed -/
def unl (n : Nat) (listed : Array Bool) : Nat := ((List.range n).filter fun i => !listed.getD i true).length
theorem unl_set {n i : Nat} {listed : Array Bool} (hs : listed.size = n) (hi : listed.getD i true = false) : unl n (listed.setIfInBounds i true) + 1 = unl n listed := by
  have hin : i < n := by
    rcases Nat.lt_or_ge i n with h | h
    · exact h
    · rw [← hs] at h
      simp [Array.getElem?_eq_none h] at hi
  unfold unl
  have key : ∀ l : List Nat, l.Nodup → i ∈ l → ((l.filter fun j => !(listed.setIfInBounds i true).getD j true).length) + 1 = (l.filter fun j => !listed.getD j true).length := by
    intro l
    induction l with
    | nil => intro _ h; cases h
    | cons x r ih =>
      intro hn hm
      rw [List.nodup_cons] at hn
      by_cases hx : x = i
      · subst hx
        have e1 : (listed.setIfInBounds x true).getD x true = true := by
          simp [Array.getD, hs, hin]
        have e2 : (r.filter fun j => !(listed.setIfInBounds x true).getD j true) = r.filter fun j => !listed.getD j true := by
          apply List.filter_congr
          intro j hj
          have : x ≠ j := fun e => hn.1 (by rw [e]; exact hj)
          rw [getD_set_ne true this]
        rw [List.filter_cons, List.filter_cons, e1, hi, e2]
        simp
      · have hr : i ∈ r := by
          rcases List.mem_cons.1 hm with h | h
          · exact absurd h.symm hx
          · exact h
        have e1 : (listed.setIfInBounds i true).getD x true = listed.getD x true := getD_set_ne true (fun e => hx e.symm)
        rw [List.filter_cons, List.filter_cons, e1]
        split
        · simp only [List.length_cons]
          have := ih hn.2 hr
          omega
        · exact ih hn.2 hr
  exact key _ List.nodup_range (by simpa using hin)

theorem ready_ne {n : Nat} (hn : L.length = n) (hb : ∀ i o, L[i]? = some o → ∀ e ∈ o.after, Region.binds .any e = true → e.on < i) {listed : Array Bool} (hs : listed.size = n)
    (hu : ∃ i, i < n ∧ listed.getD i true = false) : Region.ready .any L.toArray listed ≠ [] := by
  obtain ⟨i, hi, hl⟩ := hu
  -- the least one
  have : ∃ m, m < n ∧ listed.getD m true = false ∧ ∀ j, j < m → listed.getD j true = true := by
    induction i using Nat.strongRecOn with
    | ind i ih =>
      by_cases h : ∃ j, j < i ∧ listed.getD j true = false
      · obtain ⟨j, hj, hjl⟩ := h
        exact ih j hj (by omega) hjl
      · exact ⟨i, hi, hl, fun j hj => by
          cases hc : listed.getD j true with
          | true => rfl
          | false => exact absurd ⟨j, hj, hc⟩ h⟩
  obtain ⟨m, hm, hml, hlow⟩ := this
  have hmem : m ∈ Region.ready .any L.toArray listed := by
    refine mem_ready.2 ⟨hml, L[m]'(by omega), by simp [hn, hm], fun e he hbd => ?_⟩
    have h1 := hb m _ (List.getElem?_eq_getElem (by omega)) e he hbd
    have h2 := hlow e.on h1
    have : e.on < listed.size := by omega
    simpa [Array.getD, this] using h2
  intro h0
  rw [h0] at hmem
  cases hmem

theorem any_of_idle {m : Nat} (hm : L.length = m + 1) {o : Oper} (ho : L[m]? = some o) (hi : (idleLast L)[m]? = some (idle o)) (hd : o.dst = none) (hg : o.guard = none)
    (hb : ∀ i o, L[i]? = some o → ∀ e ∈ o.after, Region.binds .any e = true → e.on < i) (hs : Region.sinkB .any L.toArray m = true) (hc : Region.chainB .any L.toArray m = true) :
    ∀ (fuel : Nat) (listed : Array Bool) (a : Act) (w : World), C w → HeadInv .any L.toArray m listed → unl (m + 1) listed = fuel →
      wpAnyQ P .any (idleLast L).toArray C (fun a' => ∀ w', C w' → wpList P L.toArray Q [o] a' w') fuel listed a → wpAny P .any L.toArray Q fuel listed a w
  | 0, listed, a, w, hw, inv, hu, h => by
    exfalso
    have h1 := inv.tail m (Nat.le_refl _) (by simp [hm])
    unfold unl at hu
    have : m ∈ (List.range (m + 1)).filter fun i => !listed.getD i true := List.mem_filter.2 ⟨by simp, by rw [h1]; rfl⟩
    rw [List.eq_nil_of_length_eq_zero hu] at this
    cases this
  | fuel + 1, listed, a, w, hw, inv, hu, h => by
    have hmu := inv.tail m (Nat.le_refl _) (by simp [hm])
    have hsz : listed.size = m + 1 := by rw [inv.size]; simp [hm]
    refine ⟨fun h0 => absurd h0 (ready_ne hm hb hsz ⟨m, by omega, hmu⟩), fun i hir => ?_⟩
    have hq := h.2 i (by rw [idle_ready]; exact hir)
    obtain ⟨hiu, oi, hoi, _⟩ := mem_ready.1 hir
    have hilt : i < m + 1 := by
      have := (Array.getElem?_eq_some_iff.1 hoi).1
      simpa [hm] using this
    by_cases him : i = m
    · -- the last one: all others are listed
      subst him
      have hall : ∀ j, j < i → listed.getD j true = true := fun j hj => by
        cases hcj : listed.getD j true with
        | true => rfl
        | false => exact absurd hir (tail_waits hs hc (by simp [hm]) inv _ j rfl hj hcj i (Nat.le_refl _))
      have hf0 : fuel = 0 := by
        have := unl_set hsz hmu
        have h2 : unl (i + 1) (listed.setIfInBounds i true) = 0 := by
          unfold unl
          rw [List.length_eq_zero_iff, List.filter_eq_nil_iff]
          intro j hj
          have hj' : j < i + 1 := by simpa using hj
          by_cases e : i = j
          · subst e
            simp [Array.getD, hsz]
          · rw [getD_set_ne true e, hall j (by omega)]
            simp
        omega
      subst hf0
      unfold qOp at hq
      simp only [List.getElem?_toArray, hi] at hq
      have hw1 : Region.wanted (idle o) (yielded (idleLast L).toArray a.tmps) = true := by simp [Region.wanted, idle, hg]
      rw [if_pos hw1] at hq
      obtain ⟨v, _, hK⟩ := hq
      have hK2 : (Region.ready .any (idleLast L).toArray (listed.setIfInBounds i true) = []) ∧ ∀ w', C w' → wpList P L.toArray Q [o] (a.put (idle o).dst v) w' := hK
      have e : a.put (idle o).dst v = a := by simp [idle, hd, Act.put]
      rw [e, idle_ready] at hK2
      have h3 := hK2.2 w hw
      unfold wpOp
      simp only [List.getElem?_toArray, ho]
      have hw2 : Region.wanted o (yielded L.toArray a.tmps) = true := by simp [Region.wanted, hg]
      rw [if_pos hw2]
      unfold wpList at h3
      rw [if_pos hw2] at h3
      rcases h3 with h3 | h3
      · exact .inl (Oper.wp_mono (fun a' w' h' => ⟨hK2.1, h'⟩) h3)
      · exact .inr h3
    · have hin : i < m := by omega
      have hoL : L[i]? = some oi := by simpa using hoi
      have hq2 : qOp P L.toArray C i (wpAnyQ P .any (idleLast L).toArray C (fun a' => ∀ w', C w' → wpList P L.toArray Q [o] a' w') fuel (listed.setIfInBounds i true)) a := by
        unfold qOp at hq ⊢
        simp only [List.getElem?_toArray, idleLast_get L i (by omega), hoL, idle_yielded] at hq ⊢
        exact hq
      have hf : unl (m + 1) (listed.setIfInBounds i true) = fuel := by have := unl_set hsz hiu; omega
      exact wpOp_of_qOp hw (fun a' w' hw' hk => any_of_idle hm ho hi hd hg hb hs hc fuel _ a' w' hw' (inv.set hir hin) hf hk) hq2

/-- ONE WALK OF THE LEXICAL ORDER, up to a last operation that waits for all others. -/
theorem wp_region_tail {id : Nat} {a : Act} {w : World} (hm : P.follows .mixedOrders = true) (hB : tailB L = true) (hC : C w.drew)
    (h : wpQuiet P (idleLast L).toArray C (fun a' => ∀ w', C w' → wpList P L.toArray Q (lastOf L) a' w') (idleLast L) a) : (Code.region id L.toArray true).wp P Q a w := by
  simp only [tailB, Bool.and_eq_true, decide_eq_true_eq, List.all_eq_true] at hB
  obtain ⟨⟨⟨⟨hlex, hsink⟩, hpos⟩, hlast⟩, hbk⟩ := hB
  obtain ⟨m, hlen⟩ : ∃ m, L.length = m + 1 := ⟨L.length - 1, by omega⟩
  obtain ⟨o, ho, hl, hi⟩ := idleLast_last L m hlen.symm
  rw [hl] at h hlast
  have hdg := hlast o (List.mem_singleton_self _)
  simp only [Option.isNone_iff_eq_none] at hdg
  have hb : ∀ i o, L[i]? = some o → ∀ e ∈ o.after, Region.binds .any e = true → e.on < i := fun i o' hi' e he hbd => by
    have hlt : i < L.length := (List.getElem?_eq_some_iff.1 hi').1
    have := hbk i (by simpa using hlt)
    rw [hi'] at this
    have := (Array.all_eq_true_iff_forall_mem.1 this) e he
    rw [hbd] at this
    simpa using this
  have hc : Region.chainB .any L.toArray m = true := by
    unfold Region.chainB
    rw [List.all_eq_true]
    intro t ht
    have : t ≤ m := by
      have : t < L.length := by simpa using ht
      omega
    simp [this]
  have hs : Region.sinkB .any L.toArray m = true := by rw [hlen, Nat.add_sub_cancel] at hsink; exact hsink
  simp only [Region.lexB, Bool.and_eq_true] at hlex
  have hq := wpAnyQ_lex (C := C) (md := .any) hlex.1 (idleLast L) 0 (Array.replicate (idleLast L).toArray.size false) a (by simp) (by simpa using hlex.2) h
  have inv : HeadInv .any L.toArray m (Array.replicate L.toArray.size false) :=
    ⟨by simp, fun j oj _ hj => absurd hj (by rw [getD_replicate_false]; simp), fun t _ ht => by
      have ht' : t < L.length := by simpa using ht
      simp [ht']⟩
  have hu : unl (m + 1) (Array.replicate L.toArray.size false) = L.length := by
    unfold unl
    rw [List.filter_eq_self.2, List.length_range, hlen]
    intro j hj
    have hj' : j < L.length := by simpa [hlen] using hj
    simp [hj']
  refine wp_region_any hm ?_
  have := any_of_idle (P := P) (Q := Q) (C := C) hlen ho hi hdg.1 hdg.2 hb hs hc L.length _ a w.drew hC inv hu (by simpa [idleLast_length] using hq)
  simpa using this

end

section
variable {P : Program} {ops : Array Oper} {C : World → Prop} {Q : Act → Prop} {o : Oper} {rest : List Oper} {a : Act}
theorem wpQuiet_val (hg : o.guard = none) (v : Value) (hy : ∀ w, C w → o.quietAt P a C w v) (h : wpQuiet P ops C Q rest (a.put o.dst v)) : wpQuiet P ops C Q (o :: rest) a := by
  unfold wpQuiet
  rw [if_pos (by simp [Region.wanted, hg])]
  exact ⟨v, hy, h⟩
theorem wpQuiet_idle (ho : o.op = .assign (.const undef)) (hg : o.guard = none) (hd : o.dst = none) (h : Q a) : wpQuiet P ops C Q [o] a :=
  wpQuiet_val hg undef (fun w _ => by unfold Oper.quietAt; rw [BigFrame.run_assign (.const undef) ho]; exact ⟨rfl, rfl⟩) (by rw [hd]; exact h)
end

end Go.Proofs.YtmifebcaifbmoaaGreatDoor.Reg
end
