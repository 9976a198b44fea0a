/- append of one struct onto a slice that is the call's own, or full. General laws. -/
import Derived.Test.YtfchbodbkdkcfaaDoorApp
import Derived.Test.YtfchbodbkdkcfaaDoorTree2
import Derived.ArgAppend
namespace Go.Proofs.YtfchbodbkdkcfaaDoor.App
open Go.RowKit Go.Lib
/-- a row of the call's own, or an older slice without spare room -/
def FO (w : World) (B : Nat) (e : TypeId) (size : Nat) (v : Value) (n : Nat) : Prop :=
  (∃ xs, w.ownsRow B e size v n xs) ∨ ∃ g cur, v = .slice (some ⟨g, 0, none⟩) n n ∧ g < B ∧ w.heap[g]? = some (.cells cur e (0, 0)) ∧ n * size ≤ cur.size
/-- a step that turned at most one block of the call's own, of another type -/
def Away (w w' : World) (B : Nat) (e : TypeId) : Prop := ∃ ob, w.grownBy w' ob ∧ ∀ b, ob = some b → B ≤ b ∧ ∃ cur fz, w.heap[b]? = some (.cells cur e fz)
theorem Away.of_none {w w' : World} {B : Nat} {e : TypeId} (h : w.grownBy w' none) : Away w w' B e := ⟨none, h, fun _ h => by cases h⟩
theorem FO.away {w w' : World} {B : Nat} {e e2 : TypeId} {size : Nat} {v : Value} {n : Nat} (h : FO w B e size v n) (ha : Away w w' B e2) (hne : e2 ≠ e) : FO w' B e size v n := by
  obtain ⟨ob, hg, hb⟩ := ha
  rcases h with ⟨xs, h⟩ | ⟨g, cur, rfl, hlt, hc, hn⟩
  · refine .inl ⟨xs, own_kept h hg fun b e' cur fz hc => ?_⟩
    obtain ⟨_, cur', fz', h2⟩ := hb b e'
    rw [hc] at h2
    cases h2
    exact hne rfl
  · refine .inr ⟨g, cur, rfl, hlt, (hg.block g (Array.getElem?_eq_some_iff.1 hc).1 (fun e' => ?_)).trans hc, hn⟩
    have := (hb g e'.symm).1
    omega
theorem FO.alloc {w : World} {B : Nat} {e : TypeId} {size : Nat} {v : Value} {n : Nat} (h : FO w B e size v n) (o : Obj) : FO (w.alloc o) B e size v n := by
  rcases h with ⟨xs, h⟩ | ⟨g, cur, rfl, hlt, hc, hn⟩
  · exact .inl ⟨xs, h.alloc o⟩
  · exact .inr ⟨g, cur, rfl, hlt, (heap_alloc_old w o (Array.getElem?_eq_some_iff.1 hc).1).trans hc, hn⟩
theorem Away.grown {W w w' : World} {B : Nat} {e : TypeId} (h : W.grownBy w none) (hB : W.heap.size ≤ B) (ha : Away w w' B e) : W.grownBy w' none := by
  obtain ⟨ob, hg, hb⟩ := ha
  exact Tree.grown_trans h hg fun b e' => by have := (hb b e').1; omega
theorem Away.alloc {w w' : World} {B : Nat} {e : TypeId} (o : Obj) (ha : Away (w.alloc o) w' B e) : Away w w' B e := by
  obtain ⟨ob, hg, hb⟩ := ha
  have ga : w.grownBy (w.alloc o) none := World.grownBy_alloc w o none
  by_cases hs : ob = some w.heap.size
  · refine ⟨none, ⟨hg.os.trans ga.os, hg.tape.trans ga.tape, hg.output.trans ga.output, Nat.le_trans ga.size hg.size, fun k hk _ => ?_⟩, fun _ h => by cases h⟩
    rw [hg.block k (Nat.lt_of_lt_of_le hk ga.size) (fun e' => by rw [hs] at e'; cases e'; omega), ga.block k hk (by simp)]
  · refine ⟨ob, ⟨hg.os.trans ga.os, hg.tape.trans ga.tape, hg.output.trans ga.output, Nat.le_trans ga.size hg.size, fun k hk hne => ?_⟩, fun b e' => ?_⟩
    · rw [hg.block k (Nat.lt_of_lt_of_le hk ga.size) hne, ga.block k hk (by simp)]
    · obtain ⟨h1, cur, fz, h2⟩ := hb b e'
      refine ⟨h1, cur, fz, ?_⟩
      have hlt := (Array.getElem?_eq_some_iff.1 h2).1
      simp at hlt
      have : b ≠ w.heap.size := fun e2 => hs (by rw [e', e2])
      rw [← h2]
      exact (heap_alloc_old w o (by omega)).symm
theorem own_mono {w : World} {b b' : Nat} {e : TypeId} {size : Nat} {v : Value} {n : Nat} {xs : List Value} (h : w.ownsRow b e size v n xs) (hl : b' ≤ b) : w.ownsRow b' e size v n xs := by
  refine ⟨h.1, ?_⟩
  rcases h.2 with h1 | ⟨g, c, cur, h1, h2, h3⟩
  · exact .inl h1
  · exact .inr ⟨g, c, cur, h1, by omega, h3⟩
section
variable {P : Program}
theorem run_append_fo (w : World) (B : Nat) (t ty e : TypeId) (i : TypeInfo) (z : Value) (size bytes : Nat) (ht : P.underlying t = some (.slice e)) (hi : P.info? e = some i) (hz : i.zero = some z)
    (hsize : i.size = size) (hby : i.bytes = bytes) (hzs : z.cells.size = size) (hsz : 0 < size)
    (v : Value) (n : Nat) (hv : FO w B e size v n) (h : Nat) (c : Nat) (ms : Array Value) (hms : ms.size = size) (hm : w.heap[h]? = some (.cells ms e (0, 0))) (h1 : ∀ u ∈ ms.toList, u.oneCell' = true)
    (h63 : n + 1 ≤ maxLen) (hbytes : (n + 1) * bytes ≤ 140737488355328) (hB : B ≤ w.heap.size) :
    ∃ v' w', (Builtin.append_ #[t, t] ty #[v, .slice (some ⟨h, 0, none⟩) 1 c]).run P w = .ok v' w' ∧ (∃ xs, w'.ownsRow B e size v' (n + 1) xs) ∧ Away w w' B e := by
  have hnews : ∀ j u, ms.toList[j]? = some u → w.cell? ((⟨h, 0, none⟩ : Addr).add j) = some u := fun j u hj => by
    rw [Addr.add_mid, Nat.zero_add, cell_of_row _ _ j _ _ _ hm]
    simpa using hj
  rcases hv with ⟨xs, hv⟩ | ⟨g, cur, rfl, hlt, hc, hn⟩
  · obtain ⟨v', w', hr, h2, h3, _, _⟩ := run_append_own_at (P := P) w B t ty e i z size bytes ht hi hz hsize hby hzs hsz v n xs hv ⟨h, 0, none⟩ 1 c ms.toList (by simp [hms]) hnews h1 h63 hbytes hB
    refine ⟨v', w', hr, ⟨_, h2⟩, v.ownBlock, h3, fun b hb => ?_⟩
    rcases hv.2 with ⟨rfl, _⟩ | ⟨g, cap, cur, rfl, hg, hgb, _⟩
    · cases hb
    · obtain rfl : g = b := by simpa [Value.ownBlock] using hb
      exact ⟨hg, cur, _, hgb⟩
  · obtain ⟨v', w', hr, h2, h3⟩ := run_append_arg_grows (P := P) w t ty e i z size bytes ht hi hz hsize hby hzs hsz ⟨g, 0, none⟩ n n (cur.toList.take (n * size)) (by simp; omega) (fun j u hj => by
      have hjl : j < n * size := by
        have := (List.getElem?_eq_some_iff.1 hj).1
        simp at this
        omega
      rw [Addr.add_mid, Nat.zero_add, cell_of_row _ _ j _ _ _ hc, ← hj, List.getElem?_take_of_lt hjl, Array.getElem?_toList]) ⟨h, 0, none⟩ 1 c ms.toList (by simp [hms]) hnews (by omega) h63 hbytes
    exact ⟨v', w', hr, ⟨_, own_mono h2 hB⟩, none, h3, fun _ h => by cases h⟩
theorem p_append_fo {w : World} {ops : Array Oper} {rest : List Oper} {o : Oper} {a : Act} {Q : Exit → Act → World → Prop} (hgd : o.guard = none) (s x : Operand) (t : TypeId)
    (ho : o.op = .call { callee := .builtin .append, args := #[s, x], argTypes := #[t, t] })
    (B : Nat) (e : TypeId) (i : TypeInfo) (z : Value) (size bytes : Nat) (ht : P.underlying t = some (.slice e)) (hi : P.info? e = some i) (hz : i.zero = some z)
    (hsize : i.size = size) (hby : i.bytes = bytes) (hzs : z.cells.size = size) (hsz : 0 < size)
    (v : Value) (n : Nat) (hs : a.eval s = v) (hv : FO w B e size v n) (h : Nat) (c : Nat) (hx : a.eval x = .slice (some ⟨h, 0, none⟩) 1 c) (ms : Array Value) (hms : ms.size = size) (hm : w.heap[h]? = some (.cells ms e (0, 0))) (h1 : ∀ u ∈ ms.toList, u.oneCell' = true)
    (h63 : n + 1 ≤ maxLen) (hbytes : (n + 1) * bytes ≤ 140737488355328) (hB : B ≤ w.heap.size)
    (hK : ∀ v' w', (∃ xs, w'.ownsRow B e size v' (n + 1) xs) → Away w w' B e → wpList P ops Q rest (a.put o.dst v') w') : wpList P ops Q (o :: rest) a w := by
  refine wpList_plain hgd fun K hK' => ?_
  obtain ⟨v', w', hr, h2, h3⟩ := run_append_fo (P := P) w B t o.type e i z size bytes ht hi hz hsize hby hzs hsz v n hv h c ms hms hm h1 h63 hbytes hB
  unfold Oper.wp execOp
  simp only [ho, resolve, invoke, builtin, Sem.run_bind, Sem.run_pure, Result.andThen_ok, List.map_toArray, List.map_cons, List.map_nil, hs, hx, hr]
  exact hK' _ _ (hK v' w' h2 h3)
end
end Go.Proofs.YtfchbodbkdkcfaaDoor.App
