/-
  Contracts of the functions that make or mark lists of numbers. No conditions.
-/
import Derived.Test.YtjmlfjpocjmnpaaInts
import Derived.Test.YtjmlfjpocjmnpaaLib
import Derived.OwnWalk
namespace Go.Proofs.Ytjmlfjpocjmnpaa
open Go.RowKit

theorem infoInt : (Try.prog.info? 3).map (fun i => (i.zero, i.size, i.bytes)) = some (some (.int .i64 0), 1, 8) := by kernel_rfl

/-- A list of numbers that the call itself made: the slice value v in a block from 'base' on. -/
def OwnI (w : World) (base : Nat) (v : Value) (l : List Int) : Prop := w.ownsRow base 3 1 v l.length (l.map (Value.int .i64))

theorem OwnI.val {w : World} {base : Nat} {v : Value} {l : List Int} (h : OwnI w base v l) : ∃ a cap, v = .slice a l.length cap ∧ Ints w a l ∧ l.length ≤ maxLen := by
  rcases h.2 with ⟨rfl, h0⟩ | ⟨g, cap, cur, rfl, hb, hg, hn, hm, hs, ht⟩
  · refine ⟨none, 0, by rw [h0], .inl (List.length_eq_zero_iff.1 h0), by rw [h0]; exact Nat.zero_le _⟩
  · refine ⟨some ⟨g, 0, none⟩, cap, rfl, ?_, Nat.le_trans hn hm⟩
    refine .inr ⟨g, 0, rfl, fun i hi => ?_⟩
    have hown : w.ownsRow base 3 1 (.slice (some ⟨g, 0, none⟩) l.length cap) l.length (l.map (Value.int .i64)) := h
    have := hown.cellAt i (by omega)
    rw [Nat.zero_add, this, List.getElem?_map, List.getElem?_eq_getElem hi, List.getD_eq_getElem?_getD, List.getElem?_eq_getElem hi]
    rfl
theorem OwnI.kept {w w' : World} {base : Nat} {v : Value} {l : List Int} {row : Option Nat} (h : OwnI w base v l) (hg : w.grownBy w' row) (hne : v.ownBlock = none ∨ v.ownBlock ≠ row) : OwnI w' base v l := World.ownsRow.kept h hg hne
theorem OwnI.keptN {w w' : World} {base : Nat} {v : Value} {l : List Int} (h : OwnI w base v l) (hg : w.grownBy w' none) : OwnI w' base v l := h.kept hg (by cases v.ownBlock <;> simp)
theorem OwnI.lt {w : World} {base : Nat} {v : Value} {l : List Int} (h : OwnI w base v l) : ∀ k, v.ownBlock = some k → base ≤ k ∧ k < w.heap.size := World.ownsRow.lt h
theorem OwnI.drewN {w : World} {base : Nat} {v : Value} {l : List Int} (h : OwnI w base v l) (n : Nat) : OwnI (w.drewN n) base v l := h.keptN ⟨rfl, rfl, rfl, Nat.le_refl _, fun _ _ _ => rfl⟩
theorem OwnI.mono {w : World} {base base' : Nat} {v : Value} {l : List Int} (h : OwnI w base v l) (hb : base' ≤ base) : OwnI w base' v l := by
  refine ⟨h.1, ?_⟩
  rcases h.2 with h2 | ⟨g, cap, cur, rfl, hbb, r⟩
  · exact .inl h2
  · exact .inr ⟨g, cap, cur, rfl, by omega, r⟩

theorem getD_set (xs : List Int) (k j : Nat) (x : Int) (hk : k < xs.length) : (xs.set k x).getD j 0 = if j = k then x else xs.getD j 0 := by
  rw [List.getD_eq_getElem?_getD, List.getD_eq_getElem?_getD, List.getElem?_set]
  by_cases e : k = j
  · subst e; simp [hk]
  · have : ¬ j = k := fun h => e h.symm
    simp [e, this]
theorem made_ints (n : Nat) : (madeCells #[Value.int .i64 0] n).toList = (List.replicate n (0 : Int)).map (Value.int .i64) := by
  apply List.ext_getElem
  · simp [size_madeCells]
  · intro i h1 h2
    simp [madeCells, Nat.mod_one]

/-- A list that the call itself made: nil, or a row in a block of its own. -/
theorem OwnI.cases {w : World} {base : Nat} {v : Value} {l : List Int} (h : OwnI w base v l) : (v = .slice none 0 0 ∧ l = []) ∨ ∃ g cap, v = .slice (some ⟨g, 0, none⟩) l.length cap ∧ base ≤ g ∧ g < w.heap.size := by
  rcases h.2 with ⟨rfl, h0⟩ | ⟨g, cap, cur, rfl, hb, hg, hn, hm, hs, ht⟩
  · exact .inl ⟨rfl, List.length_eq_zero_iff.1 h0⟩
  · exact .inr ⟨g, cap, rfl, hb, (Array.getElem?_eq_some_iff.1 hg).1⟩

/-- What marking leaves: the numbers from n on. -/
def MarkPost (base : Nat) (v : Value) (l : List Int) (n : Int) (w : World) (e : Ending) (w' : World) : Prop :=
  e = .returned (.int .i64 (n + l.length)) ∧ w.grownBy w' v.ownBlock ∧ ∃ xs : List Int, xs.length = l.length ∧ (∀ j, j < l.length → xs.getD j 0 = n + j) ∧ OwnI w' base v xs

/-- The frames below k of a number, as numbers. -/
def blp (n : Int) (k : Nat) : List Int := ((List.range k).filter fun j : Nat => bhV n (j : Int)).map fun j : Nat => (j : Int)
theorem blp_yes {n : Int} {k : Nat} (h : bhV n k = true) : blp n (k + 1) = blp n k ++ [(k : Int)] := by
  unfold blp; rw [List.range_succ, List.filter_append, List.map_append]; simp [h]
theorem blp_no {n : Int} {k : Nat} (h : bhV n k = false) : blp n (k + 1) = blp n k := by
  unfold blp; rw [List.range_succ, List.filter_append, List.map_append]; simp [h]
theorem blp_le (n : Int) (k : Nat) : (blp n k).length ≤ k := by
  unfold blp; rw [List.length_map]
  exact Nat.le_trans (List.length_filter_le _ _) (by simp)

theorem one_new (w : World) (t : TypeId) (x : Value) : ∀ (j : Nat) (u : Value), [x][j]? = some u → (w.alloc (.cells #[x] t)).cell? ((⟨w.heap.size, 0, none⟩ : Addr).add j) = some u := by
  intro j u hj
  match j, hj with
  | 0, hj =>
    rw [Addr.add_zero']
    exact cell_new w #[x] t 0 u (by simpa using hj)
theorem grown_own {w wr w1 : World} {v : Value} {o : Obj} (h : w.grownBy wr none) (hg : (wr.alloc o).grownBy w1 v.ownBlock) (hv : ∀ j, v.ownBlock = some j → w.heap.size ≤ j) : w.grownBy w1 none := by
  have h2 := grown_trans (World.grownBy_alloc wr o v.ownBlock) hg
  refine ⟨h2.os.trans h.os, h2.tape.trans h.tape, h2.output.trans h.output, Nat.le_trans h.size h2.size, fun j hj hne => (h2.block j (by have := h.size; omega) (fun e => ?_)).trans (h.block j hj hne)⟩
  have := hv j e.symm
  omega
end Go.Proofs.Ytjmlfjpocjmnpaa
