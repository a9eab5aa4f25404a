/-
  Contracts of the functions that make, mark, hold and compare lists of translations. No conditions.
-/
import Derived.Test.YthgdhikgknmioaaCacheVal
namespace Go.Proofs.Ythgdhikgknmioaa
open Go.RowKit
attribute [local irreducible] Go.wpQuiet

theorem infoC : (Try.prog.info? 30).map (fun i => (i.zero, i.size, i.bytes)) = some (some (.agg #[.int .i64 0, .int .i64 0, .int .i64 0, .bool false]), 4, 32) := by kernel_rfl
theorem made_caches (n : Nat) : (madeCells #[Value.int .i64 0, Value.int .i64 0, Value.int .i64 0, Value.bool false] (n * 4)).toList = cellsOf (List.replicate n c0V) := by
  apply List.ext_getElem?
  intro i
  by_cases h : i < n * 4
  · have h1 : i / 4 < (List.replicate n c0V).length := by rw [List.length_replicate]; omega
    have h2 := cellsOf_get (List.replicate n c0V) (i / 4) (i % 4) h1 (by omega)
    rw [show i / 4 * 4 + i % 4 = i from by omega] at h2
    have h3 : (List.replicate n c0V).getD (i / 4) c0V = c0V := by
      rw [List.getD_eq_getElem?_getD, List.getElem?_eq_getElem h1, List.getElem_replicate]; rfl
    rw [h2, h3, Array.getElem?_toList, Array.getElem?_eq_getElem (by simp [size_madeCells]; omega)]
    have hc : i % 4 = 0 ∨ i % 4 = 1 ∨ i % 4 = 2 ∨ i % 4 = 3 := by omega
    simp only [madeCells]
    rcases hc with e | e | e | e <;> simp [e, CachedV.cells, c0V]
  · rw [List.getElem?_eq_none (by simp [size_madeCells]; omega), List.getElem?_eq_none (by rw [cellsOf_length, List.length_replicate]; omega)]
theorem cellsOf_set (xs : List CachedV) (k : Nat) (c : CachedV) (hk : k < xs.length) :
    ((((cellsOf xs).set (k * 4) (.int .i64 c.e)).set (k * 4 + 1) (.int .i64 c.p)).set (k * 4 + 2) (.int .i64 c.f)).set (k * 4 + 3) (.bool c.b) = cellsOf (xs.set k c) := by
  induction xs generalizing k with
  | nil => simp at hk
  | cons x xs ih =>
    match k with
    | 0 => simp [cellsOf, CachedV.cells]
    | k + 1 =>
      have := ih k (by simpa using hk)
      rw [show (k + 1) * 4 = k * 4 + 1 + 1 + 1 + 1 from by omega]
      simp only [cellsOf, List.flatMap_cons, CachedV.cells, List.cons_append, List.nil_append, List.set_cons_succ] at this ⊢
      rw [this]
theorem getD_setC (xs : List CachedV) (k j : Nat) (x : CachedV) (hk : k < xs.length) : (xs.set k x).getD j c0V = if j = k then x else xs.getD j c0V := by
  rw [List.getD_eq_getElem?_getD, List.getD_eq_getElem?_getD, List.getElem?_set]
  by_cases e : k = j
  · subst e; simp [hk]
  · have : ¬ j = k := fun h => e h.symm
    simp [e, this]
theorem eq_caches {la lb : List CachedV} (hl : la.length = lb.length) (h : ∀ j, j < la.length → la.getD j c0V = lb.getD j c0V) : la = lb := by
  apply List.ext_getElem hl
  intro j h1 h2
  have := h j h1
  rw [List.getD_eq_getElem?_getD, List.getD_eq_getElem?_getD, List.getElem?_eq_getElem h1, List.getElem?_eq_getElem h2] at this
  exact this
theorem row_gnone {w w' : World} {base : Nat} {e : TypeId} {size n : Nat} {v : Value} {xs : List Value} (h : w.ownsRow base e size v n xs) (hg : w.grownBy w' none) : w'.ownsRow base e size v n xs := World.ownsRow.kept h hg (by cases v.ownBlock <;> simp)
/-- A translation is stored at place k of a row of the call's own. -/
theorem stored4 {w : World} {base g n cap : Nat} {xs : List CachedV} (h : w.ownsRow base 30 4 (.slice (some ⟨g, 0, none⟩) n cap) n (cellsOf xs)) (hl : xs.length = n) (k : Nat) (hk : k < n) (c : CachedV) :
    ((((w.setCell ⟨g, k * 4, none⟩ (.int .i64 c.e)).setCell ⟨g, k * 4 + 1, none⟩ (.int .i64 c.p)).setCell ⟨g, k * 4 + 2, none⟩ (.int .i64 c.f)).setCell ⟨g, k * 4 + 3, none⟩ (.bool c.b)).ownsRow base 30 4 (.slice (some ⟨g, 0, none⟩) n cap) n (cellsOf (xs.set k c)) ∧
    w.grownBy ((((w.setCell ⟨g, k * 4, none⟩ (.int .i64 c.e)).setCell ⟨g, k * 4 + 1, none⟩ (.int .i64 c.p)).setCell ⟨g, k * 4 + 2, none⟩ (.int .i64 c.f)).setCell ⟨g, k * 4 + 3, none⟩ (.bool c.b)) (some g) := by
  have s0 := h.stored (k * 4) (.int .i64 c.e)
  have s1 := s0.1.stored (k * 4 + 1) (.int .i64 c.p)
  have s2 := s1.1.stored (k * 4 + 2) (.int .i64 c.f)
  have s3 := s2.1.stored (k * 4 + 3) (.bool c.b)
  rw [cellsOf_set xs k c (by omega)] at s3
  exact ⟨s3.1, grown_trans (grown_trans (grown_trans s0.2 s1.2) s2.2) s3.2⟩
/-- What stands at place k of a row of the call's own. -/
theorem row4 {w : World} {base g n cap : Nat} {xs : List CachedV} (h : w.ownsRow base 30 4 (.slice (some ⟨g, 0, none⟩) n cap) n (cellsOf xs)) (hl : xs.length = n) (k : Nat) (hk : k < n) :
    (w.cell? ⟨g, k * 4, none⟩ = some (.int .i64 (xs.getD k c0V).e) ∧ w.cell? ⟨g, k * 4 + 1, none⟩ = some (.int .i64 (xs.getD k c0V).p) ∧ w.cell? ⟨g, k * 4 + 2, none⟩ = some (.int .i64 (xs.getD k c0V).f) ∧ w.cell? ⟨g, k * 4 + 3, none⟩ = some (.bool (xs.getD k c0V).b)) ∧
    (w.frozen? ⟨g, k * 4, none⟩ = false ∧ w.frozen? ⟨g, k * 4 + 1, none⟩ = false ∧ w.frozen? ⟨g, k * 4 + 2, none⟩ = false ∧ w.frozen? ⟨g, k * 4 + 3, none⟩ = false) := by
  have get : ∀ j, j < 4 → w.cell? ⟨g, k * 4 + j, none⟩ = (xs.getD k c0V).cells[j]? := fun j hj => by
    rw [h.cellAt (k * 4 + j) (by omega), cellsOf_get xs k j (by omega) hj]
  exact ⟨⟨get 0 (by omega), get 1 (by omega), get 2 (by omega), get 3 (by omega)⟩, h.frozenAt _, h.frozenAt _, h.frozenAt _, h.frozenAt _⟩
theorem results_cell1 {fn : Func} {p : Tmp} {ty : TypeId} (h : fn.results = #[.cell p ty]) (tmps : Array Value) (P : Program) (w : World) :
    (results fn tmps).run P w = ((asAddr (tmps.getD p undef)).run P w).andThen fun a w₁ => (loadVar ty a).run P w₁ := by
  simp only [results, h]
  simp [Sem.run_bind, Result.andThen]
/-- The translation that marking lays at a place. -/
def markC (n : Int) (j : Nat) : CachedV := ⟨n + 4 * j, n + 4 * j + 1, n + 4 * j + 1 + 1, (n + 4 * j + 1 + 1 + 1) % 3 == 0⟩
/-- What marking leaves: the numbers from n on. -/
def MarkC (base : Nat) (v : Value) (m : Nat) (n : Int) (w : World) (e : Ending) (w' : World) : Prop :=
  e = .returned (.int .i64 (n + 4 * m)) ∧ w.grownBy w' v.ownBlock ∧ ∃ xs : List CachedV, xs.length = m ∧ (∀ j, j < m → xs.getD j c0V = markC n j) ∧ OwnC w' base v xs
end Go.Proofs.Ythgdhikgknmioaa
