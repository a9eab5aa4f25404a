/-
  What the drawing of a memory does to lists of lists: plain laws. No conditions.
-/
import Derived.Test.YtjmlfjpocjmnpaaMemPut
import Derived.Test.YtjmlfjpocjmnpaaRd
import Derived.Test.YtjmlfjpocjmnpaaInv
namespace Go.Proofs.Ytjmlfjpocjmnpaa
open Go.RowKit

/-- A shorter part of a row of the call's own. -/
theorem OwnI.cut {w : World} {base g n cap : Nat} {l : List Int} (h : OwnI w base (.slice (some ⟨g, 0, none⟩) n cap) l) (hl : l.length = n) {j : Nat} (hj : j ≤ n) : OwnI w base (.slice (some ⟨g, 0, none⟩) j cap) (l.take j) := by
  subst hl
  rcases h.2 with ⟨h', _⟩ | ⟨g', cap', cur, h', hb, hg, hnc, hcm, hcs, htake⟩
  · simp at h'
  · simp only [Value.slice.injEq, Option.some.injEq, Addr.mk.injEq, and_true, true_and] at h'
    obtain ⟨rfl, rfl⟩ := h'
    have hlen : (l.take j).length = j := by rw [List.length_take]; omega
    refine ⟨by rw [hlen, List.length_map, hlen, Nat.mul_one], .inr ⟨g, cap, cur, by rw [hlen], hb, hg, by omega, hcm, hcs, ?_⟩⟩
    rw [hlen, Nat.mul_one, List.map_take, ← htake, List.take_take]
    congr 1
    omega
/-- A row is cut shorter. -/
theorem Part.recut {w : World} {lo hi g n cap g2 m rc : Nat} {vs : List Value} {k j : Nat} {ls : List (List Int)} (h : Part w lo hi (.slice (some ⟨g, 0, none⟩) n cap) vs ls.length ls) (hn : n = vs.length) (hv : vs.length = ls.length) (hk : k < n)
    (e : vs.getD k nilV = .slice (some ⟨g2, 0, none⟩) m rc) (hm : (ls.getD k []).length = m) (hj : j ≤ m) :
    OwnM (w.setCell ⟨g, k, none⟩ (.slice (some ⟨g2, 0, none⟩) j rc)) lo hi (.slice (some ⟨g, 0, none⟩) n cap) (ls.set k ((ls.getD k []).take j)) ∧ Turned lo hi w (w.setCell ⟨g, k, none⟩ (.slice (some ⟨g2, 0, none⟩) j rc)) := by
  subst hn
  have hst := h.row.stored k (.slice (some ⟨g2, 0, none⟩) j rc)
  have hgh : g < hi := h.top g rfl
  have hgl : lo ≤ g := (h.row.lt g rfl).1
  have ho := h.own k (by omega)
  rw [e] at ho
  have ho2 := ho.cut hm hj
  have hap := h.apart k (by omega)
  have same : ∀ i g', ((vs.set k (.slice (some ⟨g2, 0, none⟩) j rc)).getD i nilV).ownBlock = some g' → (vs.getD i nilV).ownBlock = some g' := by
    intro i g' e'
    rw [getD_setV _ _ _ _ _ hk] at e'
    split at e'
    · rename_i hik
      subst hik
      rw [e]; exact e'
    · exact e'
  refine ⟨⟨vs.set k (.slice (some ⟨g2, 0, none⟩) j rc), by rw [List.length_set, List.length_set]; exact hv, ⟨?_, h.top, fun i hi => ?_, fun i hi g' e' => ?_, fun i i' hij hj' g' e1 e2 => ?_⟩⟩, Turned.of_row hst.2 (fun b hb => by have := Option.some.inj hb; omega)⟩
  · rw [List.length_set]; exact hst.1
  · rw [List.length_set] at hi
    rw [getD_setV _ _ _ _ _ hk, getD_setL _ _ _ _ (by omega)]
    split
    · exact ho2.kept hst.2 (.inr (fun e2 => (hap g2 (by rw [e]; rfl)).2 (by have := Option.some.inj e2; rw [show g2 = g from this]; rfl)))
    · refine (h.own i hi).kept hst.2 ?_
      rcases e3 : (vs.getD i nilV).ownBlock with _ | b
      · exact .inl rfl
      · right
        intro e2
        have e4 := Option.some.inj e2
        subst e4
        exact (h.apart i hi b e3).2 rfl
  · rw [List.length_set] at hi
    exact h.apart i hi g' (same i g' e')
  · rw [List.length_set] at hj'
    exact h.each i i' hij hj' g' (same i g' e1) (same i' g' e2)
/-- The first lists alone. -/
theorem OwnM.take_ {w : World} {lo hi g n cap : Nat} {ls : List (List Int)} (h : OwnM w lo hi (.slice (some ⟨g, 0, none⟩) n cap) ls) (hn : n = ls.length) {k : Nat} (hk : k ≤ n) : OwnM w lo hi (.slice (some ⟨g, 0, none⟩) k cap) (ls.take k) := by
  subst hn
  obtain ⟨vs, v1, v2⟩ := h
  have hlen : (ls.take k).length = k := by rw [List.length_take]; omega
  have hlenv : (vs.take k).length = k := by rw [List.length_take]; omega
  have gv : ∀ i, i < k → (vs.take k).getD i nilV = vs.getD i nilV := fun i hi => by rw [List.getD_eq_getElem?_getD, List.getD_eq_getElem?_getD, List.getElem?_take, if_pos hi]
  have gl : ∀ i, i < k → (ls.take k).getD i [] = ls.getD i [] := fun i hi => by rw [List.getD_eq_getElem?_getD, List.getD_eq_getElem?_getD, List.getElem?_take, if_pos hi]
  refine ⟨vs.take k, by omega, ⟨?_, v2.top, fun i hi => ?_, fun i hi g' e => ?_, fun i j hij hj g' e1 e2 => ?_⟩⟩
  · rcases v2.row.2 with ⟨h', _⟩ | ⟨g', cap', cur, h', hb, hg, hnc, hcm, hcs, htake⟩
    · simp at h'
    · simp only [Value.slice.injEq, Option.some.injEq, Addr.mk.injEq, and_true, true_and] at h'
      obtain ⟨rfl, h2, rfl⟩ := h'
      refine ⟨by omega, .inr ⟨g, cap, cur, by rw [hlenv], hb, hg, by omega, hcm, hcs, ?_⟩⟩
      rw [hlenv, Nat.mul_one]
      conv => rhs; rw [← htake]
      rw [List.take_take]
      congr 1
      omega
  · rw [hlen] at hi
    rw [gv i hi, gl i hi]
    exact v2.own i (by omega)
  · rw [hlen] at hi
    rw [gv i hi] at e
    exact v2.apart i (by omega) g' e
  · rw [hlen] at hj
    rw [gv i (by omega)] at e1
    rw [gv j hj] at e2
    exact v2.each i j hij (by omega) g' e1 e2
/-- Twelve lists of four numbers. -/
def Full (ls : List (List Int)) : Prop := ls.length = 12 ∧ ∀ i, i < 12 → (ls.getD i []).length = 4
theorem Full.put {ls : List (List Int)} (h : Full ls) {k : Nat} (hk : k < 12) {l : List Int} (hl : l.length = 4) : Full (ls.set k l) := by
  refine ⟨by rw [List.length_set]; exact h.1, fun i hi => ?_⟩
  rw [getD_setL _ _ _ _ (by rw [h.1]; exact hk)]
  split
  · exact hl
  · exact h.2 i hi
/-- Between the parts of the drawing of a memory: the reader br, and the lists with the outer row vs, which stands still. -/
def AtM (w2 : World) (br lo hi g cap : Nat) (vs : List Value) (q : Nat) (w : World) : Prop :=
  w2.grownBy w (some br) ∧ Rdr w br q ∧ vs.length = 12 ∧ w2.heap.size ≤ lo ∧ br < lo ∧ hi ≤ w.heap.size ∧ ∃ ls, Full ls ∧ Part w lo hi (.slice (some ⟨g, 0, none⟩) 12 cap) vs ls.length ls
theorem Part.kept {w w' : World} {lo hi br : Nat} {v : Value} {vs : List Value} {k : Nat} {ls : List (List Int)} (h : Part w lo hi v vs k ls) (hg : w.grownBy w' (some br)) (hb : br < lo) : Part w' lo hi v vs k ls :=
  h.turned (lo' := br) (hi' := br + 1) (Turned.of_row hg (fun j e => by have := Option.some.inj e; omega)) (.inr (by omega))
theorem AtM.alloc {w2 w : World} {br lo hi g cap q : Nat} {vs : List Value} (h : AtM w2 br lo hi g cap vs q w) (o : Obj) : AtM w2 br lo hi g cap vs q (w.alloc o) := by
  obtain ⟨h1, h2, h3, h4, h5, h6, ls, h7, h8⟩ := h
  exact ⟨grown_alloc h1 o, h2.alloc o, h3, h4, h5, by simp; omega, ls, h7, h8.gnone (World.grownBy_alloc w o none)⟩
theorem AtM.drew {w2 w : World} {br lo hi g cap q : Nat} {vs : List Value} (h : AtM w2 br lo hi g cap vs q w) : AtM w2 br lo hi g cap vs q w.drew := by
  obtain ⟨h1, h2, h3, h4, h5, h6, ls, h7, h8⟩ := h
  exact ⟨⟨h1.os, h1.tape, h1.output, h1.size, h1.block⟩, h2.drew, h3, h4, h5, h6, ls, h7, h8.gnone (drewN_none w 1)⟩
theorem AtM.more {w2 w : World} {br lo hi g cap q q' : Nat} {vs : List Value} (h : AtM w2 br lo hi g cap vs q w) (hq : q ≤ q') : AtM w2 br lo hi g cap vs q' w := ⟨h.1, h.2.1.mono hq, h.2.2⟩
theorem AtM.call {w2 w w' : World} {br lo hi g cap q q' : Nat} {vs : List Value} (h : AtM w2 br lo hi g cap vs q w) (hg : w.grownBy w' (some br)) (hr : Rdr w' br q') : AtM w2 br lo hi g cap vs q' w' := by
  obtain ⟨h1, h2, h3, h4, h5, h6, ls, h7, h8⟩ := h
  exact ⟨grown_trans h1 hg, hr, h3, h4, h5, Nat.le_trans h6 hg.size, ls, h7, h8.kept hg h5⟩
theorem Rdr.setA {w : World} {br q g : Nat} (h : Rdr w br q) (hg : br < g) (j : Nat) (x : Value) : Rdr (w.setCell ⟨g, j, none⟩ x) br q :=
  h.of_blocks fun k hk => Below.heap_setCell w ⟨g, j, none⟩ x k (by show k ≠ g; omega)
/-- What stands in the outer row. -/
theorem AtM.row {w2 w : World} {br lo hi g cap q : Nat} {vs : List Value} (h : AtM w2 br lo hi g cap vs q w) {i : Nat} (hi' : i < 12) :
    ∃ g2 rc, vs.getD i nilV = .slice (some ⟨g2, 0, none⟩) 4 rc ∧ w.cell? ⟨g, i, none⟩ = some (.slice (some ⟨g2, 0, none⟩) 4 rc) ∧ w.frozen? ⟨g, i, none⟩ = false ∧ (∀ j, j < 4 → ∃ x : Int, w.cell? ⟨g2, j, none⟩ = some (.int .i64 x)) ∧ (∀ j, w.frozen? ⟨g2, j, none⟩ = false) ∧ lo ≤ g2 ∧ g2 < hi := by
  obtain ⟨h1, h2, h3, h4, h5, h6, ls, h7, h8⟩ := h
  obtain ⟨g2, rc, e, c, z, ho, cc, zz, k1, k2, _, _⟩ := h8.four h3.symm (by rw [h3, h7.1]) hi' (h7.2 i hi')
  exact ⟨g2, rc, e, c, z, fun j hj => ⟨_, cc j hj⟩, zz, k1, k2⟩
/-- A number is stored into a list. -/
theorem AtM.put {w2 w : World} {br lo hi g cap q g2 rc : Nat} {vs : List Value} (h : AtM w2 br lo hi g cap vs q w) {i j : Nat} (hi' : i < 12) (_hj : j < 4) (e : vs.getD i nilV = .slice (some ⟨g2, 0, none⟩) 4 rc) (x : Int) : AtM w2 br lo hi g cap vs q (w.setCell ⟨g2, j, none⟩ (.int .i64 x)) := by
  obtain ⟨h1, h2, h3, h4, h5, h6, ls, h7, h8⟩ := h
  have ho := h8.own i (by rw [h7.1]; exact hi')
  rw [e] at ho
  have hl4 := h7.2 i hi'
  have hown : w.ownsRow lo 3 1 (.slice (some ⟨g2, 0, none⟩) 4 rc) 4 ((ls.getD i []).map (Value.int .i64)) := by unfold OwnI at ho; rw [hl4] at ho; exact ho
  have hst := hown.stored j (.int .i64 x)
  have hr : OwnI (w.setCell ⟨g2, j, none⟩ (.int .i64 x)) lo (vs.getD i nilV) ((ls.getD i []).set j x) := by
    rw [e]
    unfold OwnI
    rw [List.length_set, hl4, List.map_set]
    exact hst.1
  have hw := OwnM.wrote (by rw [h3, h7.1]) h8 (k := i) (by rw [h7.1]; exact hi') (by rw [e]; exact hst.2) hr
  have hlo : lo ≤ g2 := (hown.lt g2 rfl).1
  refine ⟨?_, h2.setA (by omega) _ _, h3, h4, h5, by simpa [World.setCell] using h6, _, h7.put hi' (by rw [List.length_set]; exact hl4), hw.1⟩
  exact ⟨h1.os, h1.tape, h1.output, by simpa [World.setCell] using h1.size, fun k hk hne => (Below.heap_setCell w ⟨g2, j, none⟩ _ k (by show k ≠ g2; omega)).trans (h1.block k hk hne)⟩
theorem AtM.room {w2 w : World} {br lo hi g cap q g2 rc : Nat} {vs : List Value} (h : AtM w2 br lo hi g cap vs q w) {i : Nat} (hi' : i < 12) (e : vs.getD i nilV = .slice (some ⟨g2, 0, none⟩) 4 rc) : 4 ≤ rc := by
  obtain ⟨h1, h2, h3, h4, h5, h6, ls, h7, h8⟩ := h
  have ho := h8.own i (by rw [h7.1]; exact hi')
  rw [e] at ho
  rcases ho.2 with ⟨e2, _⟩ | ⟨g', cap', cur, e2, _, _, hn, _⟩
  · simp at e2
  · simp only [Value.slice.injEq, Option.some.injEq, Addr.mk.injEq, and_true] at e2
    rw [h7.2 i hi'] at hn
    omega
/-- A list is cut shorter in the outer row. -/
theorem AtM.cutrow {w2 w : World} {br lo hi g cap q g2 rc : Nat} {vs : List Value} (h : AtM w2 br lo hi g cap vs q w) {i j : Nat} (hi' : i < 12) (hj : j ≤ 4) (e : vs.getD i nilV = .slice (some ⟨g2, 0, none⟩) 4 rc) :
    ∃ ls, OwnM (w.setCell ⟨g, i, none⟩ (.slice (some ⟨g2, 0, none⟩) j rc)) lo hi (.slice (some ⟨g, 0, none⟩) 12 cap) ls ∧ ls.length = 12 ∧ (∀ k, k < 12 → (ls.getD k []).length ≤ 4) ∧ w2.grownBy (w.setCell ⟨g, i, none⟩ (.slice (some ⟨g2, 0, none⟩) j rc)) (some br) ∧
      Rdr (w.setCell ⟨g, i, none⟩ (.slice (some ⟨g2, 0, none⟩) j rc)) br q ∧ hi ≤ (w.setCell ⟨g, i, none⟩ (.slice (some ⟨g2, 0, none⟩) j rc)).heap.size := by
  obtain ⟨h1, h2, h3, h4, h5, h6, ls, h7, h8⟩ := h
  have hgl : lo ≤ g := (h8.row.lt g rfl).1
  have hr := h8.recut h3.symm (by rw [h3, h7.1]) (k := i) (j := j) hi' e (h7.2 i hi') hj
  refine ⟨_, hr.1, by rw [List.length_set]; exact h7.1, fun k hk => ?_, ?_, h2.setA (by omega) _ _, by simpa [World.setCell] using h6⟩
  · rw [getD_setL _ _ _ _ (by rw [h7.1]; exact hi')]
    split
    · rw [List.length_take]; omega
    · rw [h7.2 k hk]; omega
  · exact ⟨h1.os, h1.tape, h1.output, by simpa [World.setCell] using h1.size, fun k hk hne => (Below.heap_setCell w ⟨g, i, none⟩ _ k (by show k ≠ g; omega)).trans (h1.block k hk hne)⟩
/-- What a drawn memory is. -/
def DrawnM (w : World) (br : Nat) (q : Nat) (e : Ending) (w' : World) : Prop := ∃ v ls, e = .returned v ∧ OwnM w' w.heap.size w'.heap.size v ls ∧ ls.length ≤ 12 ∧ (∀ i, i < ls.length → (ls.getD i []).length ≤ 4) ∧ w.grownBy w' (some br) ∧ Rdr w' br q
end Go.Proofs.Ytjmlfjpocjmnpaa
