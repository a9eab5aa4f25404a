/-
  Lists of remembered translations in memory: plain laws; no function in sight. No conditions.
-/
import Derived.Test.YthgdhikgknmioaaTurn
import Derived.Deep.Slices
import Derived.Lib.SmallJoins
import Derived.OpenShut
namespace Go.Proofs.Ythgdhikgknmioaa
open Go.RowKit Go.ChangeShapes Go.WideShapes

/-- A translation. -/
structure CachedV where
  e : Int
  p : Int
  f : Int
  b : Bool
deriving DecidableEq
instance : Inhabited CachedV := ⟨⟨0, 0, 0, false⟩⟩
def c0V : CachedV := ⟨0, 0, 0, false⟩
def CachedV.cells (c : CachedV) : List Value := [.int .i64 c.e, .int .i64 c.p, .int .i64 c.f, .bool c.b]
def CachedV.val (c : CachedV) : Value := .agg #[.int .i64 c.e, .int .i64 c.p, .int .i64 c.f, .bool c.b]
def cellsOf (cs : List CachedV) : List Value := cs.flatMap CachedV.cells
theorem cellsOf_length (cs : List CachedV) : (cellsOf cs).length = cs.length * 4 := by
  unfold cellsOf
  induction cs with
  | nil => rfl
  | cons c cs ih => rw [List.flatMap_cons, List.length_append, ih, List.length_cons]; simp [CachedV.cells]; omega
theorem cellsOf_append (a b : List CachedV) : cellsOf (a ++ b) = cellsOf a ++ cellsOf b := by unfold cellsOf; rw [List.flatMap_append]
theorem cellsOf_one (cs : List CachedV) : ∀ u ∈ cellsOf cs, u.oneCell' = true := by
  intro u hu
  unfold cellsOf at hu
  obtain ⟨c, _, h⟩ := List.mem_flatMap.1 hu
  simp only [CachedV.cells, List.mem_cons, List.not_mem_nil, or_false] at h
  rcases h with rfl | rfl | rfl | rfl <;> rfl
theorem getD_cv (cs : List CachedV) (k : Nat) (h : k < cs.length) : cs[k]? = some (cs.getD k c0V) := by
  rw [List.getD_eq_getElem?_getD, List.getElem?_eq_getElem h]; rfl
/-- The four cells of translation k. -/
theorem cellsOf_get (cs : List CachedV) (k j : Nat) (hk : k < cs.length) (hj : j < 4) : (cellsOf cs)[k * 4 + j]? = (cs.getD k c0V).cells[j]? := by
  induction cs generalizing k with
  | nil => simp at hk
  | cons c cs ih =>
    unfold cellsOf
    rw [List.flatMap_cons]
    match k with
    | 0 =>
      rw [List.getElem?_append_left (by simp [CachedV.cells]; omega)]
      simp
    | k + 1 =>
      rw [List.getElem?_append_right (by simp [CachedV.cells]; omega)]
      have := ih k (by simpa using hk)
      unfold cellsOf at this
      rw [show (k + 1) * 4 + j - c.cells.length = k * 4 + j from by simp [CachedV.cells]; omega, this]
      simp
theorem cellsOf_take (cs : List CachedV) (k : Nat) (hk : k ≤ cs.length) : (cellsOf cs).take (k * 4) = cellsOf (cs.take k) := by
  conv => lhs; rw [← List.take_append_drop k cs, cellsOf_append]
  rw [List.take_append_of_le_length (by rw [cellsOf_length, List.length_take]; omega), List.take_of_length_le (by rw [cellsOf_length, List.length_take]; omega)]

/-- The cells of a slice below block B read as a list of translations. -/
def Caches (w : World) (B : Nat) (a : Option Addr) (cs : List CachedV) : Prop :=
  cs = [] ∨ ∃ b off, a = some ⟨b, off, none⟩ ∧ b < B ∧ ∀ i, i < cs.length → w.cell? ⟨b, off + i * 4, none⟩ = some (.int .i64 (cs.getD i c0V).e) ∧ w.cell? ⟨b, off + i * 4 + 1, none⟩ = some (.int .i64 (cs.getD i c0V).p) ∧
    w.cell? ⟨b, off + i * 4 + 2, none⟩ = some (.int .i64 (cs.getD i c0V).f) ∧ w.cell? ⟨b, off + i * 4 + 3, none⟩ = some (.bool (cs.getD i c0V).b)
theorem Caches.kept {w w' : World} {B : Nat} {a : Option Addr} {cs : List CachedV} (h : Caches w B a cs) (hk : ∀ j, j < B → w'.heap[j]? = w.heap[j]?) : Caches w' B a cs := by
  rcases h with h | ⟨b, off, ha, hb, hc⟩
  · exact .inl h
  · refine .inr ⟨b, off, ha, hb, fun i hi => ?_⟩
    obtain ⟨h0, h1, h2, h3⟩ := hc i hi
    have hK := hk b hb
    exact ⟨(World.cell?_of_block (w := w) hK).trans h0, (World.cell?_of_block (w := w) hK).trans h1, (World.cell?_of_block (w := w) hK).trans h2, (World.cell?_of_block (w := w) hK).trans h3⟩
theorem Caches.below {w w' : World} {B : Nat} {a : Option Addr} {cs : List CachedV} (h : Caches w B a cs) (hb : Below B w w') : Caches w' B a cs := h.kept fun j hj => hb.block j hj
theorem Caches.gnone {w w' : World} {B : Nat} {a : Option Addr} {cs : List CachedV} (h : Caches w B a cs) (hg : w.grownBy w' none) (hB : B ≤ w.heap.size) : Caches w' B a cs := h.kept fun j hj => hg.block j (by omega) (fun e => by cases e)
theorem Caches.mono {w : World} {B B' : Nat} {a : Option Addr} {cs : List CachedV} (h : Caches w B a cs) (hB : B ≤ B') : Caches w B' a cs := by
  rcases h with h | ⟨b, off, ha, hb, hc⟩
  · exact .inl h
  · exact .inr ⟨b, off, ha, by omega, hc⟩
theorem Caches.at_ {w : World} {B : Nat} {a : Option Addr} {cs : List CachedV} (h : Caches w B a cs) {i : Nat} (hi : i < cs.length) :
    ∃ b off, a = some ⟨b, off, none⟩ ∧ b < B ∧ w.cell? ⟨b, off + i * 4, none⟩ = some (.int .i64 (cs.getD i c0V).e) ∧ w.cell? ⟨b, off + i * 4 + 1, none⟩ = some (.int .i64 (cs.getD i c0V).p) ∧
      w.cell? ⟨b, off + i * 4 + 2, none⟩ = some (.int .i64 (cs.getD i c0V).f) ∧ w.cell? ⟨b, off + i * 4 + 3, none⟩ = some (.bool (cs.getD i c0V).b) := by
  rcases h with h | ⟨b, off, ha, hb, hc⟩
  · subst h; simp at hi
  · exact ⟨b, off, ha, hb, hc i hi⟩
/-- The cells one by one, as 'append' wants them. -/
theorem Caches.news {w : World} {B b off : Nat} {cs : List CachedV} (h : Caches w B (some ⟨b, off, none⟩) cs) : ∀ j u, (cellsOf cs)[j]? = some u → w.cell? ((⟨b, off, none⟩ : Addr).add j) = some u := by
  intro j u hu
  have hj : j < cs.length * 4 := by rw [← cellsOf_length]; exact (List.getElem?_eq_some_iff.1 hu).1
  have hk : j / 4 < cs.length := by omega
  obtain ⟨b', off', ha, _, h0, h1, h2, h3⟩ := h.at_ hk
  simp only [Option.some.injEq, Addr.mk.injEq, and_true] at ha
  obtain ⟨rfl, rfl⟩ := ha
  have hg := cellsOf_get cs (j / 4) (j % 4) hk (by omega)
  rw [show j / 4 * 4 + j % 4 = j from by omega, hu] at hg
  rw [Addr.add_lit]
  have hc : j % 4 = 0 ∨ j % 4 = 1 ∨ j % 4 = 2 ∨ j % 4 = 3 := by omega
  rcases hc with e | e | e | e
  · rw [e] at hg; simp [CachedV.cells] at hg
    rw [show off + j = off + j / 4 * 4 from by omega, hg]; exact h0
  · rw [e] at hg; simp [CachedV.cells] at hg
    rw [show off + j = off + j / 4 * 4 + 1 from by omega, hg]; exact h1
  · rw [e] at hg; simp [CachedV.cells] at hg
    rw [show off + j = off + j / 4 * 4 + 2 from by omega, hg]; exact h2
  · rw [e] at hg; simp [CachedV.cells] at hg
    rw [show off + j = off + j / 4 * 4 + 3 from by omega, hg]; exact h3

/-- A list of translations that the call itself made. -/
def OwnC (w : World) (base : Nat) (v : Value) (cs : List CachedV) : Prop := w.ownsRow base 30 4 v cs.length (cellsOf cs)
theorem OwnC.cases {w : World} {base : Nat} {v : Value} {cs : List CachedV} (h : OwnC w base v cs) : (v = .slice none 0 0 ∧ cs = []) ∨ ∃ g cap, v = .slice (some ⟨g, 0, none⟩) cs.length cap ∧ base ≤ g ∧ g < w.heap.size ∧ cs.length ≤ cap ∧ cap ≤ maxLen := by
  rcases h.2 with ⟨rfl, h0⟩ | ⟨g, cap, cur, rfl, hb, hg, hn, hm, hs, ht⟩
  · exact .inl ⟨rfl, List.length_eq_zero_iff.1 h0⟩
  · exact .inr ⟨g, cap, rfl, hb, (Array.getElem?_eq_some_iff.1 hg).1, hn, hm⟩
theorem OwnC.caches {w : World} {base hi : Nat} {v : Value} {cs : List CachedV} (h : OwnC w base v cs) (hh : ∀ g, v.ownBlock = some g → g < hi) : ∃ a cap, v = .slice a cs.length cap ∧ cs.length ≤ cap ∧ cap ≤ maxLen ∧ Caches w hi a cs := by
  rcases h.2 with ⟨rfl, h0⟩ | ⟨g, cap, cur, rfl, hb, hg, hn, hm, hs, ht⟩
  · exact ⟨none, 0, by rw [h0], by omega, Nat.zero_le _, .inl (List.length_eq_zero_iff.1 h0)⟩
  · refine ⟨some ⟨g, 0, none⟩, cap, rfl, hn, hm, .inr ⟨g, 0, rfl, hh g rfl, fun i hi => ?_⟩⟩
    have hown : w.ownsRow base 30 4 (.slice (some ⟨g, 0, none⟩) cs.length cap) cs.length (cellsOf cs) := h
    have get : ∀ j, j < 4 → w.cell? ⟨g, 0 + i * 4 + j, none⟩ = (cs.getD i c0V).cells[j]? := fun j hj => by
      rw [Nat.zero_add, hown.cellAt (i * 4 + j) (by omega), cellsOf_get cs i j hi hj]
    exact ⟨get 0 (by omega), get 1 (by omega), get 2 (by omega), get 3 (by omega)⟩
theorem OwnC.lt {w : World} {base : Nat} {v : Value} {cs : List CachedV} (h : OwnC w base v cs) : ∀ k, v.ownBlock = some k → base ≤ k ∧ k < w.heap.size := World.ownsRow.lt h
theorem OwnC.kept {w w' : World} {base : Nat} {v : Value} {cs : List CachedV} {row : Option Nat} (h : OwnC w base v cs) (hg : w.grownBy w' row) (hne : v.ownBlock = none ∨ v.ownBlock ≠ row) : OwnC w' base v cs := World.ownsRow.kept h hg hne
theorem OwnC.gnone {w w' : World} {base : Nat} {v : Value} {cs : List CachedV} (h : OwnC w base v cs) (hg : w.grownBy w' none) : OwnC w' base v cs := h.kept hg (by cases v.ownBlock <;> simp)
theorem OwnC.turned {w w' : World} {lo hi lo' hi' : Nat} {v : Value} {cs : List CachedV} (h : OwnC w lo v cs) (hg : Turned lo' hi' w w') (hh : ∀ g, v.ownBlock = some g → g < hi) (hd : hi ≤ lo' ∨ hi' ≤ lo) : OwnC w' lo v cs := ownsRow_turned h hg hh hd
theorem OwnC.mono {w : World} {base base' : Nat} {v : Value} {cs : List CachedV} (h : OwnC w base v cs) (hb : base' ≤ base) : OwnC w base' v cs := by
  refine ⟨h.1, ?_⟩
  rcases h.2 with h2 | ⟨g, cap, cur, rfl, hbb, r⟩
  · exact .inl h2
  · exact .inr ⟨g, cap, cur, rfl, by omega, r⟩
theorem OwnC.nil (w : World) (base : Nat) : OwnC w base (.slice none 0 0) [] := World.ownsRow_nil _ _ _ _
theorem OwnC.lit (w : World) (lo : Nat) (hl : lo ≤ w.heap.size) : OwnC (w.alloc (.cells #[] 30)) lo (.slice (some ⟨w.heap.size, 0, none⟩) 0 0) [] := World.ownsRow_lit w #[] 0 hl (by unfold maxLen; omega) rfl

/-- A slice of translations that came in reads as a list of translations. -/
def CachesL (w : World) (a : Option Addr) (len cap : Nat) (cs : List CachedV) : Prop :=
  cs.length = len ∧ len ≤ cap ∧ cap ≤ maxLen ∧ Caches w w.heap.size a cs
end Go.Proofs.Ythgdhikgknmioaa
