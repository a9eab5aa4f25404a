/-
  Contracts of the functions that make, mark and hold lists of lists of numbers. No conditions.
-/
import Derived.Test.YtjmlfjpocjmnpaaMemRd
namespace Go.Proofs.Ytjmlfjpocjmnpaa
open Go.RowKit

theorem infoRow : (Try.prog.info? 26).map (fun i => (i.zero, i.size, i.bytes)) = some (some (.slice none 0 0), 1, 24) := by kernel_rfl
theorem made_rows (n : Nat) : (madeCells #[Value.slice none 0 0] n).toList = List.replicate n nilV := by
  apply List.ext_getElem
  · simp [size_madeCells]
  · intro i h1 h2
    simp [madeCells, Nat.mod_one, nilV]
/-- A row of values of which none is a list of the call's own yet. -/
theorem Part.zero {w : World} {lo hi : Nat} {v : Value} {vs : List Value} {ls : List (List Int)} (h : w.ownsRow lo 26 1 v vs.length vs) (hv : ∀ g, v.ownBlock = some g → g < hi) : Part w lo hi v vs 0 ls :=
  ⟨h, hv, fun _ hi => absurd hi (Nat.not_lt_zero _), fun _ hi => absurd hi (Nat.not_lt_zero _), fun _ _ _ hj => absurd hj (Nat.not_lt_zero _)⟩
/-- What stands at place k of the outer row. -/
theorem Part.cell {w : World} {lo hi g n cap : Nat} {vs : List Value} {k : Nat} {ls : List (List Int)} (h : Part w lo hi (.slice (some ⟨g, 0, none⟩) n cap) vs k ls) (hn : n = vs.length) {i : Nat} (hi' : i < n) : w.cell? ⟨g, i, none⟩ = some (vs.getD i nilV) ∧ w.frozen? ⟨g, i, none⟩ = false := by
  subst hn
  have hc := h.row.cellAt i (by omega)
  rw [getD_some vs i nilV hi'] at hc
  exact ⟨hc, h.row.frozenAt i⟩

/-- What marking leaves. -/
def MarkM (lo hi : Nat) (v : Value) (ls : List (List Int)) (n : Int) (w : World) (e : Ending) (w' : World) : Prop :=
  e = .returned (.int .i64 (n + sums ls ls.length)) ∧ Turned lo hi w w' ∧ ∃ xs, Shape xs ls ∧ Marked n xs.length xs ∧ OwnM w' lo hi v xs
end Go.Proofs.Ytjmlfjpocjmnpaa
