/-
  Lists of lists of numbers in memory: plain laws; no function in sight. No conditions.
-/
import Derived.Test.YtjmlfjpocjmnpaaOwn
import Derived.Maps.AppendAt
import Derived.Laws.OwnMore
import Derived.Deep.QuietTactic
namespace Go.Proofs.Ytjmlfjpocjmnpaa
open Go.RowKit

/-- Blocks from lo up to hi may have turned; all others read as before. -/
structure Turned (lo hi : Nat) (w w' : World) : Prop where
  os : w'.os = w.os
  tape : w'.tape = w.tape
  output : w'.output = w.output
  size : w.heap.size ≤ w'.heap.size
  block : ∀ k, k < w.heap.size → ¬ (lo ≤ k ∧ k < hi) → w'.heap[k]? = w.heap[k]?

theorem Turned.refl (lo hi : Nat) (w : World) : Turned lo hi w w := ⟨rfl, rfl, rfl, Nat.le_refl _, fun _ _ _ => rfl⟩
theorem Turned.trans {lo hi : Nat} {a b c : World} (h : Turned lo hi a b) (k : Turned lo hi b c) : Turned lo hi a c :=
  ⟨k.os.trans h.os, k.tape.trans h.tape, k.output.trans h.output, Nat.le_trans h.size k.size, fun j hj hne => (k.block j (by have := h.size; omega) hne).trans (h.block j hj hne)⟩
theorem Turned.mono {lo hi lo' hi' : Nat} {w w' : World} (h : Turned lo hi w w') (h1 : lo' ≤ lo) (h2 : hi ≤ hi') : Turned lo' hi' w w' :=
  ⟨h.os, h.tape, h.output, h.size, fun j hj hne => h.block j hj (by omega)⟩
theorem Turned.of_none {w w' : World} (h : w.grownBy w' none) (lo hi : Nat) : Turned lo hi w w' :=
  ⟨h.os, h.tape, h.output, h.size, fun j hj _ => h.block j hj (fun e => by cases e)⟩
theorem Turned.of_row {w w' : World} {row : Option Nat} {lo hi : Nat} (h : w.grownBy w' row) (hr : ∀ k, row = some k → lo ≤ k ∧ k < hi) : Turned lo hi w w' :=
  ⟨h.os, h.tape, h.output, h.size, fun j hj hne => h.block j hj (fun e => hne (hr j e.symm))⟩
theorem Turned.gnone {lo hi : Nat} {w w' : World} (h : Turned lo hi w w') (hl : w.heap.size ≤ lo) : w.grownBy w' none :=
  ⟨h.os, h.tape, h.output, h.size, fun j hj _ => h.block j hj (by omega)⟩
theorem Turned.below {lo hi B : Nat} {w w' : World} (h : Turned lo hi w w') (hl : B ≤ lo) (hB : B ≤ w.heap.size) : Below B w w' :=
  ⟨h.os, h.tape, h.output, h.size, fun j hj => h.block j (by omega) (by omega)⟩
theorem Turned.setCell {lo hi : Nat} {w w' : World} (h : Turned lo hi w w') {p : Addr} (hp : (lo ≤ p.block ∧ p.block < hi) ∨ w.heap.size ≤ p.block) (u : Value) : Turned lo hi w (w'.setCell p u) :=
  ⟨h.os, h.tape, h.output, by simpa [World.setCell] using h.size, fun j hj hne => (Below.heap_setCell w' p u j (by omega)).trans (h.block j hj hne)⟩
theorem Turned.alloc {lo hi : Nat} {w w' : World} (h : Turned lo hi w w') (o : Obj) : Turned lo hi w (w'.alloc o) := h.trans (Turned.of_none (World.grownBy_alloc w' o _) _ _)
theorem Turned.drewN {lo hi : Nat} {w w' : World} (h : Turned lo hi w w') (n : Nat) : Turned lo hi w (w'.drewN n) := ⟨h.os, h.tape, h.output, h.size, h.block⟩
theorem none_drewN {w w' : World} (h : w.grownBy w' none) (n : Nat) : w.grownBy (w'.drewN n) none := ⟨h.os, h.tape, h.output, h.size, h.block⟩
theorem drewN_none (w : World) (n : Nat) : w.grownBy (w.drewN n) none := ⟨rfl, rfl, rfl, Nat.le_refl _, fun _ _ _ => rfl⟩
theorem none_trans {a b c : World} (h : a.grownBy b none) (k : b.grownBy c none) : a.grownBy c none := grown_trans h k
theorem none_alloc {a b : World} (h : a.grownBy b none) (o : Obj) : a.grownBy (b.alloc o) none := grown_alloc h o
/-- A cell of a block that was made behind the first world. -/
theorem none_setCell {a b : World} (h : a.grownBy b none) {p : Addr} (hp : a.heap.size ≤ p.block) (u : Value) : a.grownBy (b.setCell p u) none :=
  ⟨h.os, h.tape, h.output, by simpa [World.setCell] using h.size, fun j hj hne => (Below.heap_setCell b p u j (by omega)).trans (h.block j hj hne)⟩
theorem below_none {B : Nat} {w w1 w2 : World} (h : Below B w w1) (hB : B ≤ w.heap.size) (hg : w1.grownBy w2 none) : Below B w w2 :=
  h.trans ⟨hg.os, hg.tape, hg.output, hg.size, fun k hk => hg.block k (by have := h.size; omega) (fun e => by cases e)⟩
theorem below_drew {B : Nat} {w w1 : World} (h : Below B w w1) (n : Nat) : Below B w (w1.drewN n) := ⟨h.os, h.tape, h.output, h.size, h.block⟩

/-- A quiet callee behind draws that have been joined. -/
theorem quiet_joined {P : Program} {f : FuncId} {args : Array Value} {w : World} {a n : Nat} {v : Value}
    (h : Calls P f args (w.drewN (a + n)) fun e w' => e = .returned v ∧ ∃ m, w' = (w.drewN (a + n)).drewN m) : Calls P f args (w.drewN (a + n)) fun e w'' => e = .returned v ∧ ∃ m, w'' = w.drewN (a + m) :=
  h.mono fun _ _ ⟨he, m, hm⟩ => ⟨he, n + m, by rw [hm, World.drewN_drewN, Nat.add_assoc]⟩

/-- The cells of a slice below block B read as a list of numbers. -/
def IntsB (w : World) (B : Nat) (a : Option Addr) (l : List Int) : Prop :=
  l = [] ∨ ∃ b off, a = some ⟨b, off, none⟩ ∧ b < B ∧ ∀ i, i < l.length → w.cell? ⟨b, off + i, none⟩ = some (.int .i64 (l.getD i 0))
theorem IntsB.ints {w : World} {B : Nat} {a : Option Addr} {l : List Int} (h : IntsB w B a l) : Ints w a l := by
  rcases h with h | ⟨b, off, ha, _, hc⟩
  · exact .inl h
  · exact .inr ⟨b, off, ha, hc⟩
theorem IntsB.kept {w w' : World} {B : Nat} {a : Option Addr} {l : List Int} (h : IntsB w B a l) (hk : ∀ j, j < B → w'.heap[j]? = w.heap[j]?) : IntsB w' B a l := by
  rcases h with h | ⟨b, off, ha, hb, hc⟩
  · exact .inl h
  · exact .inr ⟨b, off, ha, hb, fun i hi => (World.cell?_of_block (w := w) (hk b hb)).trans (hc i hi)⟩
theorem Ints.bound {w : World} {a : Option Addr} {l : List Int} (h : Ints w a l) : IntsB w w.heap.size a l := by
  rcases h with h | ⟨b, off, ha, hc⟩
  · exact .inl h
  · rcases l with _ | ⟨x, l⟩
    · exact .inl rfl
    · exact .inr ⟨b, off, ha, World.block_lt_of_cell? w ⟨b, off + 0, none⟩ (hc 0 (by simp)), hc⟩
theorem Ints.gnone {w w' : World} {a : Option Addr} {l : List Int} (h : Ints w a l) (hg : w.grownBy w' none) : Ints w' a l :=
  (h.bound.kept fun j hj => hg.block j hj (fun e => by cases e)).ints

/-- The cells of a slice of slices below block B read as a list of lists of numbers. -/
def Mem (w : World) (B : Nat) (a : Option Addr) (ls : List (List Int)) : Prop :=
  ls = [] ∨ ∃ b off, a = some ⟨b, off, none⟩ ∧ b < B ∧ ∀ i, i < ls.length → ∃ ra rc, w.cell? ⟨b, off + i, none⟩ = some (.slice ra (ls.getD i []).length rc) ∧ (ls.getD i []).length ≤ rc ∧ IntsB w B ra (ls.getD i [])
theorem Mem.kept {w w' : World} {B : Nat} {a : Option Addr} {ls : List (List Int)} (h : Mem w B a ls) (hk : ∀ j, j < B → w'.heap[j]? = w.heap[j]?) : Mem w' B a ls := by
  rcases h with h | ⟨b, off, ha, hb, hc⟩
  · exact .inl h
  · refine .inr ⟨b, off, ha, hb, fun i hi => ?_⟩
    obtain ⟨ra, rc, h1, h2, h3⟩ := hc i hi
    exact ⟨ra, rc, (World.cell?_of_block (w := w) (hk b hb)).trans h1, h2, h3.kept hk⟩
theorem Mem.below {w w' : World} {B : Nat} {a : Option Addr} {ls : List (List Int)} (h : Mem w B a ls) (hb : Below B w w') : Mem w' B a ls := h.kept fun j hj => hb.block j hj
theorem Mem.gnone {w w' : World} {B : Nat} {a : Option Addr} {ls : List (List Int)} (h : Mem w B a ls) (hg : w.grownBy w' none) (hB : B ≤ w.heap.size) : Mem w' B a ls := h.kept fun j hj => hg.block j (by omega) (fun e => by cases e)
theorem Mem.mono {w : World} {B B' : Nat} {a : Option Addr} {ls : List (List Int)} (h : Mem w B a ls) (hB : B ≤ B') : Mem w B' a ls := by
  rcases h with h | ⟨b, off, ha, hb, hc⟩
  · exact .inl h
  · refine .inr ⟨b, off, ha, by omega, fun i hi => ?_⟩
    obtain ⟨ra, rc, h1, h2, h3⟩ := hc i hi
    refine ⟨ra, rc, h1, h2, ?_⟩
    rcases h3 with h3 | ⟨b', off', ha', hb', hc'⟩
    · exact .inl h3
    · exact .inr ⟨b', off', ha', by omega, hc'⟩
theorem Mem.drewN {w : World} {B : Nat} {a : Option Addr} {ls : List (List Int)} (h : Mem w B a ls) (n : Nat) : Mem (w.drewN n) B a ls := h
theorem Mem.at_ {w : World} {B : Nat} {a : Option Addr} {ls : List (List Int)} (h : Mem w B a ls) {i : Nat} (hi : i < ls.length) :
    ∃ b off, a = some ⟨b, off, none⟩ ∧ b < B ∧ ∃ ra rc, w.cell? ⟨b, off + i, none⟩ = some (.slice ra (ls.getD i []).length rc) ∧ (ls.getD i []).length ≤ rc ∧ IntsB w B ra (ls.getD i []) := by
  rcases h with h | ⟨b, off, ha, hb, hc⟩
  · subst h; simp at hi
  · exact ⟨b, off, ha, hb, hc i hi⟩

/-- The value of a list that is nil. -/
def nilV : Value := .slice none 0 0

/-- The outer row v of n values; the first k of them are lists of the call's own, each in a block of its own; all blocks lie from lo up to hi. -/
structure Part (w : World) (lo hi : Nat) (v : Value) (vs : List Value) (k : Nat) (ls : List (List Int)) : Prop where
  row : w.ownsRow lo 26 1 v vs.length vs
  top : ∀ g, v.ownBlock = some g → g < hi
  own : ∀ i, i < k → OwnI w lo (vs.getD i nilV) (ls.getD i [])
  apart : ∀ i, i < k → ∀ g, (vs.getD i nilV).ownBlock = some g → g < hi ∧ v.ownBlock ≠ some g
  each : ∀ i j, i < j → j < k → ∀ g, (vs.getD i nilV).ownBlock = some g → (vs.getD j nilV).ownBlock ≠ some g

/-- A list of lists of numbers that the call itself made, in blocks from lo up to hi. -/
def OwnM (w : World) (lo hi : Nat) (v : Value) (ls : List (List Int)) : Prop := ∃ vs : List Value, vs.length = ls.length ∧ Part w lo hi v vs ls.length ls

theorem OwnI.turned {w w' : World} {lo hi lo' hi' : Nat} {v : Value} {l : List Int} (h : OwnI w lo v l) (hg : Turned lo' hi' w w') (hh : ∀ g, v.ownBlock = some g → g < hi) (hd : hi ≤ lo' ∨ hi' ≤ lo) : OwnI w' lo v l := by
  rcases h.2 with ⟨rfl, h0⟩ | ⟨g, cap, cur, rfl, hb, hgr, hn, hm, hs, ht⟩
  · exact ⟨h.1, .inl ⟨rfl, h0⟩⟩
  · have hlt := hh g rfl
    refine ⟨h.1, .inr ⟨g, cap, cur, rfl, hb, ?_, hn, hm, hs, ht⟩⟩
    rw [hg.block g (Array.getElem?_eq_some_iff.1 hgr).1 (by omega)]
    exact hgr
theorem ownsRow_turned {w w' : World} {lo hi lo' hi' : Nat} {e : TypeId} {size n : Nat} {v : Value} {xs : List Value} (h : w.ownsRow lo e size v n xs) (hg : Turned lo' hi' w w') (hh : ∀ g, v.ownBlock = some g → g < hi) (hd : hi ≤ lo' ∨ hi' ≤ lo) : w'.ownsRow lo e size v n xs := by
  rcases h.2 with ⟨rfl, h0⟩ | ⟨g, cap, cur, rfl, hb, hgr, hn, hm, hs, ht⟩
  · exact ⟨h.1, .inl ⟨rfl, h0⟩⟩
  · have hlt := hh g rfl
    refine ⟨h.1, .inr ⟨g, cap, cur, rfl, hb, ?_, hn, hm, hs, ht⟩⟩
    rw [hg.block g (Array.getElem?_eq_some_iff.1 hgr).1 (by omega)]
    exact hgr
theorem Part.turned {w w' : World} {lo hi lo' hi' : Nat} {v : Value} {vs : List Value} {k : Nat} {ls : List (List Int)} (h : Part w lo hi v vs k ls) (hg : Turned lo' hi' w w') (hd : hi ≤ lo' ∨ hi' ≤ lo) : Part w' lo hi v vs k ls :=
  ⟨ownsRow_turned h.row hg h.top hd, h.top, fun i hi' => (h.own i hi').turned hg (fun g e => (h.apart i hi' g e).1) hd, h.apart, h.each⟩
theorem Part.gnone {w w' : World} {lo hi : Nat} {v : Value} {vs : List Value} {k : Nat} {ls : List (List Int)} (h : Part w lo hi v vs k ls) (hg : w.grownBy w' none) : Part w' lo hi v vs k ls :=
  h.turned (lo' := hi) (hi' := hi) (Turned.of_none hg _ _) (.inl (Nat.le_refl _))
theorem Part.mono {w : World} {lo hi hi' : Nat} {v : Value} {vs : List Value} {k : Nat} {ls : List (List Int)} (h : Part w lo hi v vs k ls) (hh : hi ≤ hi') : Part w lo hi' v vs k ls :=
  ⟨h.row, fun g e => by have := h.top g e; omega, h.own, fun i hi g e => ⟨by have := (h.apart i hi g e).1; omega, (h.apart i hi g e).2⟩, h.each⟩
theorem OwnM.turned {w w' : World} {lo hi lo' hi' : Nat} {v : Value} {ls : List (List Int)} (h : OwnM w lo hi v ls) (hg : Turned lo' hi' w w') (hd : hi ≤ lo' ∨ hi' ≤ lo) : OwnM w' lo hi v ls := by
  obtain ⟨vs, h1, h2⟩ := h
  exact ⟨vs, h1, h2.turned hg hd⟩
theorem OwnM.gnone {w w' : World} {lo hi : Nat} {v : Value} {ls : List (List Int)} (h : OwnM w lo hi v ls) (hg : w.grownBy w' none) : OwnM w' lo hi v ls := by
  obtain ⟨vs, h1, h2⟩ := h
  exact ⟨vs, h1, h2.gnone hg⟩
theorem OwnM.mono {w : World} {lo hi hi' : Nat} {v : Value} {ls : List (List Int)} (h : OwnM w lo hi v ls) (hh : hi ≤ hi') : OwnM w lo hi' v ls := by
  obtain ⟨vs, h1, h2⟩ := h
  exact ⟨vs, h1, h2.mono hh⟩
theorem OwnM.nil (w : World) (lo hi : Nat) : OwnM w lo hi nilV [] :=
  ⟨[], rfl, ⟨World.ownsRow_nil _ _ _ _, fun g e => (by cases e), fun i hi => absurd hi (Nat.not_lt_zero _), fun i hi => absurd hi (Nat.not_lt_zero _), fun i j _ hj => absurd hj (Nat.not_lt_zero _)⟩⟩
theorem OwnM.lit (w : World) (lo : Nat) (hl : lo ≤ w.heap.size) : OwnM (w.alloc (.cells #[] 26)) lo (w.heap.size + 1) (.slice (some ⟨w.heap.size, 0, none⟩) 0 0) [] := by
  refine ⟨[], rfl, ⟨World.ownsRow_lit w #[] 0 hl (by unfold maxLen; omega) rfl, fun g e => ?_, fun i hi => absurd hi (Nat.not_lt_zero _), fun i hi => absurd hi (Nat.not_lt_zero _), fun i j _ hj => absurd hj (Nat.not_lt_zero _)⟩⟩
  have := Option.some.inj e
  simp at this
  omega

/-- The value of an outer row. -/
theorem OwnM.cases {w : World} {lo hi : Nat} {v : Value} {ls : List (List Int)} (h : OwnM w lo hi v ls) :
    (v = .slice none 0 0 ∧ ls = []) ∨ ∃ g cap, v = .slice (some ⟨g, 0, none⟩) ls.length cap ∧ lo ≤ g ∧ g < hi ∧ g < w.heap.size ∧ ls.length ≤ cap ∧ cap ≤ maxLen := by
  obtain ⟨vs, h1, h2⟩ := h
  rcases h2.row.2 with ⟨rfl, h0⟩ | ⟨g, cap, cur, rfl, hb, hg, hn, hm, hs, ht⟩
  · exact .inl ⟨rfl, List.length_eq_zero_iff.1 (by omega)⟩
  · exact .inr ⟨g, cap, by rw [h1], hb, h2.top g rfl, (Array.getElem?_eq_some_iff.1 hg).1, by omega, hm⟩
theorem OwnI.intsB {w : World} {lo hi : Nat} {v : Value} {l : List Int} (h : OwnI w lo v l) (hh : ∀ g, v.ownBlock = some g → g < hi) : ∃ ra rc, v = .slice ra l.length rc ∧ l.length ≤ rc ∧ rc ≤ maxLen ∧ IntsB w hi ra l := by
  rcases h.2 with ⟨rfl, h0⟩ | ⟨g, cap, cur, rfl, hb, hg, hn, hm, hs, ht⟩
  · exact ⟨none, 0, by rw [h0], by omega, Nat.zero_le _, .inl (List.length_eq_zero_iff.1 h0)⟩
  · refine ⟨some ⟨g, 0, none⟩, cap, rfl, hn, hm, .inr ⟨g, 0, rfl, hh g rfl, fun i hi => ?_⟩⟩
    have hown : w.ownsRow lo 3 1 (.slice (some ⟨g, 0, none⟩) l.length cap) l.length (l.map (Value.int .i64)) := h
    have := hown.cellAt i (by omega)
    rw [Nat.zero_add, this, List.getElem?_map, List.getElem?_eq_getElem hi, List.getD_eq_getElem?_getD, List.getElem?_eq_getElem hi]
    rfl
theorem getD_some {α : Type} (l : List α) (i : Nat) (d : α) (h : i < l.length) : l[i]? = some (l.getD i d) := by
  rw [List.getD_eq_getElem?_getD, List.getElem?_eq_getElem h]; rfl
/-- What is made reads as a list of lists. -/
theorem OwnM.mem {w : World} {lo hi : Nat} {v : Value} {ls : List (List Int)} (h : OwnM w lo hi v ls) : ∃ a cap, v = .slice a ls.length cap ∧ ls.length ≤ cap ∧ cap ≤ maxLen ∧ Mem w hi a ls := by
  obtain ⟨vs, h1, h2⟩ := h
  rcases h2.row.2 with ⟨rfl, h0⟩ | ⟨g, cap, cur, rfl, hb, hg, hn, hm, hs, ht⟩
  · have h0' : ls.length = 0 := by omega
    exact ⟨none, 0, by rw [h0'], by omega, Nat.zero_le _, .inl (List.length_eq_zero_iff.1 h0')⟩
  · refine ⟨some ⟨g, 0, none⟩, cap, by rw [h1], by omega, hm, .inr ⟨g, 0, rfl, h2.top g rfl, fun i hi => ?_⟩⟩
    have hc := h2.row.cellAt i (by omega)
    rw [getD_some vs i nilV (by omega)] at hc
    obtain ⟨ra, rc, e, h3, h4, h5⟩ := (h2.own i hi).intsB (fun g e => (h2.apart i hi g e).1)
    rw [e] at hc
    exact ⟨ra, rc, by rw [Nat.zero_add]; exact hc, h3, h5⟩

theorem getD_setV (vs : List Value) (k j : Nat) (x d : Value) (hk : k < vs.length) : (vs.set k x).getD j d = if j = k then x else vs.getD j d := by
  rw [List.getD_eq_getElem?_getD, List.getD_eq_getElem?_getD, List.getElem?_set]
  by_cases e : k = j
  · subst e; simp [hk]
  · have : ¬ j = k := fun h => e h.symm
    simp [e, this]
theorem getD_setL (ls : List (List Int)) (k j : Nat) (x : List Int) (hk : k < ls.length) : (ls.set k x).getD j [] = if j = k then x else ls.getD j [] := by
  rw [List.getD_eq_getElem?_getD, List.getD_eq_getElem?_getD, List.getElem?_set]
  by_cases e : k = j
  · subst e; simp [hk]
  · have : ¬ j = k := fun h => e h.symm
    simp [e, this]

/-- A further list of the call's own is stored at place k of the outer row. -/
theorem Part.store {w : World} {lo hi g n cap : Nat} {vs : List Value} {k : Nat} {ls : List (List Int)} {r : Value} (h : Part w lo hi (.slice (some ⟨g, 0, none⟩) n cap) vs k ls) (hn : n = vs.length) (hk : k < n) (hhi : hi ≤ w.heap.size)
    (hr : OwnI w hi r (ls.getD k [])) (hlo : lo ≤ hi) :
    Part (w.setCell ⟨g, k, none⟩ r) lo w.heap.size (.slice (some ⟨g, 0, none⟩) n cap) (vs.set k r) (k + 1) ls ∧ w.grownBy (w.setCell ⟨g, k, none⟩ r) (some g) ∧ lo ≤ g ∧ g < hi := by
  subst hn
  have hgh : g < hi := h.top g rfl
  have hgl : lo ≤ g := (h.row.lt g rfl).1
  have hst := h.row.stored k r
  have hT : Turned g (g + 1) w (w.setCell ⟨g, k, none⟩ r) := Turned.of_row hst.2 (fun j e => by have := Option.some.inj e; omega)
  refine ⟨⟨?_, fun g' e => ?_, fun i hi => ?_, fun i hi g' e => ?_, fun i j hij hj g' e => ?_⟩, hst.2, hgl, hgh⟩
  · have := hst.1
    rw [List.length_set]
    exact this
  · have := h.top g' e
    omega
  · rw [getD_setV _ _ _ _ _ hk]
    split
    · rename_i e
      subst e
      exact (hr.kept hst.2 (by
        rcases e : r.ownBlock with _ | b
        · exact .inl rfl
        · right
          have := hr.lt b e
          intro e2
          have := Option.some.inj e2
          omega)).mono hlo
    · have hik : i < k := by omega
      refine (h.own i hik).kept hst.2 ?_
      rcases e : (vs.getD i nilV).ownBlock with _ | b
      · exact .inl rfl
      · right
        intro e2
        have e3 := Option.some.inj e2
        subst e3
        exact (h.apart i hik b e).2 rfl
  · rw [getD_setV _ _ _ _ _ hk] at e
    split at e
    · have := hr.lt g' e
      refine ⟨this.2, fun e2 => ?_⟩
      have e3 : g = g' := Option.some.inj e2
      omega
    · rename_i hne
      have := h.apart i (by omega) g' e
      exact ⟨by omega, this.2⟩
  · rw [getD_setV _ _ _ _ _ hk] at e ⊢
    split at e
    · omega
    · rename_i hne
      split
      · rename_i hjk
        have h1 := (h.apart i (by omega) g' e).1
        intro e2
        have := hr.lt g' e2
        omega
      · exact h.each i j hij (by omega) g' e

/-- The list at place k was written, and nothing else. -/
theorem OwnM.wrote {w w' : World} {lo hi : Nat} {v : Value} {vs : List Value} {ls : List (List Int)} {k : Nat} {l' : List Int} (_hv : vs.length = ls.length) (h : Part w lo hi v vs ls.length ls) (hk : k < ls.length)
    (hg : w.grownBy w' (vs.getD k nilV).ownBlock) (hr : OwnI w' lo (vs.getD k nilV) l') : Part w' lo hi v vs (ls.set k l').length (ls.set k l') ∧ Turned lo hi w w' := by
  have hlen : (ls.set k l').length = ls.length := List.length_set
  have hrow : ∀ j, (vs.getD k nilV).ownBlock = some j → lo ≤ j ∧ j < hi := fun j e => ⟨((h.own k hk).lt j e).1, (h.apart k hk j e).1⟩
  refine ⟨⟨?_, h.top, fun i hi => ?_, fun i hi => h.apart i (by omega), fun i j hij hj => h.each i j hij (by omega)⟩, Turned.of_row hg hrow⟩
  · refine World.ownsRow.kept h.row hg ?_
    rcases e : (vs.getD k nilV).ownBlock with _ | b
    · rcases e2 : v.ownBlock with _ | b2
      · exact .inl rfl
      · exact .inr (by simp)
    · right
      exact (h.apart k hk b e).2
  · rw [getD_setL _ _ _ _ hk]
    split
    · rename_i e
      subst e
      exact hr
    · rename_i hne
      refine (h.own i (by omega)).kept hg ?_
      rcases e : (vs.getD i nilV).ownBlock with _ | b
      · exact .inl rfl
      · right
        intro e2
        rcases Nat.lt_or_ge i k with hik | hik
        · exact h.each i k hik hk b e e2.symm
        · exact h.each k i (by omega) (by omega) b e2.symm e

/-- A further list of the call's own is appended to the outer row. -/
theorem OwnM.push {w w' : World} {lo hi : Nat} {v v' r : Value} {ls : List (List Int)} {l : List Int} {vs : List Value} (hv : vs.length = ls.length) (h : Part w lo hi v vs ls.length ls) (hhi : hi ≤ w.heap.size) (hlo : lo ≤ hi)
    (hr : OwnI w hi r l) (hown : w'.ownsRow lo 26 1 v' (vs.length + 1) (vs ++ [r])) (hg : w.grownBy w' v.ownBlock) (hat : v'.ownBlock = v.ownBlock ∨ v'.ownBlock = some w.heap.size) :
    OwnM w' lo w'.heap.size v' (ls ++ [l]) ∧ Turned lo hi w w' := by
  have hsz : w.heap.size ≤ w'.heap.size := hg.size
  have vrow : ∀ j, v.ownBlock = some j → lo ≤ j ∧ j < hi := fun j e => ⟨(h.row.lt j e).1, h.top j e⟩
  have old : ∀ i, i < ls.length → (vs ++ [r]).getD i nilV = vs.getD i nilV := fun i hi => by
    rw [List.getD_eq_getElem?_getD, List.getD_eq_getElem?_getD, List.getElem?_append_left (by omega)]
  have new : (vs ++ [r]).getD ls.length nilV = r := by
    rw [List.getD_eq_getElem?_getD, List.getElem?_append_right (by omega), hv]; simp
  have oldL : ∀ i, i < ls.length → (ls ++ [l]).getD i [] = ls.getD i [] := fun i hi => by
    rw [List.getD_eq_getElem?_getD, List.getD_eq_getElem?_getD, List.getElem?_append_left (by omega)]
  have newL : (ls ++ [l]).getD ls.length [] = l := by
    rw [List.getD_eq_getElem?_getD, List.getElem?_append_right (by omega)]; simp
  have ne_v : ∀ b, v.ownBlock ≠ some b → b < w.heap.size → v'.ownBlock ≠ some b := by
    intro b h1 h2 e
    rcases hat with e2 | e2
    · exact h1 (e2 ▸ e)
    · rw [e2] at e
      have := Option.some.inj e
      omega
  refine ⟨⟨vs ++ [r], by simp [hv], ⟨by simpa using hown, fun g e => (hown.lt g e).2, fun i hi => ?_, fun i hi g e => ?_, fun i j hij hj g e => ?_⟩⟩, Turned.of_row hg vrow⟩
  · rw [List.length_append, List.length_singleton] at hi
    by_cases e : i = ls.length
    · subst e
      rw [new, newL]
      refine (hr.kept hg ?_).mono hlo
      rcases e : r.ownBlock with _ | b
      · exact .inl rfl
      · right
        intro e2
        have := hr.lt b e
        have := vrow b e2.symm
        omega
    · rw [old i (by omega), oldL i (by omega)]
      refine (h.own i (by omega)).kept hg ?_
      rcases e : (vs.getD i nilV).ownBlock with _ | b
      · exact .inl rfl
      · right
        intro e2
        exact (h.apart i (by omega) b e).2 e2.symm
  · rw [List.length_append, List.length_singleton] at hi
    by_cases e' : i = ls.length
    · subst e'
      rw [new] at e
      have := hr.lt g e
      refine ⟨by omega, ne_v g (fun e2 => ?_) this.2⟩
      have := vrow g e2
      omega
    · rw [old i (by omega)] at e
      have := h.apart i (by omega) g e
      exact ⟨by omega, ne_v g this.2 (by omega)⟩
  · rw [List.length_append, List.length_singleton] at hj
    rw [old i (by omega)] at e
    by_cases e' : j = ls.length
    · subst e'
      rw [new]
      intro e2
      have := hr.lt g e2
      have := (h.apart i (by omega) g e).1
      omega
    · rw [old j (by omega)]
      exact h.each i j hij (by omega) g e

/-- Numbers in order through the lists of a list. -/
def sums (ls : List (List Int)) (k : Nat) : Nat := ((ls.take k).map List.length).sum
theorem sums_zero (ls : List (List Int)) : sums ls 0 = 0 := by simp [sums]
theorem sums_succ (ls : List (List Int)) (k : Nat) (h : k < ls.length) : sums ls (k + 1) = sums ls k + (ls.getD k []).length := by
  unfold sums
  rw [List.take_succ_eq_append_getElem h, List.map_append, List.sum_append, List.getD_eq_getElem?_getD, List.getElem?_eq_getElem h]
  simp
theorem sums_le (ls : List (List Int)) (k : Nat) : sums ls k ≤ sums ls ls.length := by
  unfold sums
  rw [List.take_length]
  conv => rhs; rw [← List.take_append_drop k ls, List.map_append, List.sum_append]
  omega
theorem row_le (ls : List (List Int)) (k : Nat) (h : k < ls.length) : (ls.getD k []).length ≤ sums ls ls.length := by
  have := sums_succ ls k h
  have := sums_le ls (k + 1)
  omega
/-- The lists' lengths are those of other lists. -/
def Shape (xs ls : List (List Int)) : Prop := xs.length = ls.length ∧ ∀ i, i < ls.length → (xs.getD i []).length = (ls.getD i []).length
theorem Shape.refl (ls : List (List Int)) : Shape ls ls := ⟨rfl, fun _ _ => rfl⟩
theorem Shape.set {xs ls : List (List Int)} (h : Shape xs ls) {k : Nat} {l : List Int} (hk : k < ls.length) (hl : l.length = (ls.getD k []).length) : Shape (xs.set k l) ls := by
  refine ⟨by rw [List.length_set]; exact h.1, fun i hi => ?_⟩
  rw [getD_setL _ _ _ _ (by rw [h.1]; exact hk)]
  split
  · rename_i e; rw [e, hl]
  · exact h.2 i hi
theorem Shape.sums {xs ls : List (List Int)} (h : Shape xs ls) : ∀ k, k ≤ ls.length → sums xs k = sums ls k := by
  intro k
  induction k with
  | zero => intro _; rw [sums_zero, sums_zero]
  | succ k ih =>
    intro hk
    rw [sums_succ _ _ (by rw [h.1]; omega), sums_succ _ _ (by omega), ih (by omega), h.2 k (by omega)]
/-- The first k lists bear the numbers from n on. -/
def Marked (n : Int) (k : Nat) (ls : List (List Int)) : Prop := ∀ i, i < k → ∀ j, j < (ls.getD i []).length → (ls.getD i []).getD j 0 = n + sums ls i + j
theorem eq_lists {la lb : List (List Int)} (hl : la.length = lb.length) (h : ∀ j, j < la.length → la.getD j [] = lb.getD j []) : la = lb := by
  apply List.ext_getElem hl
  intro j h1 h2
  have := h j h1
  rw [List.getD_eq_getElem?_getD, List.getD_eq_getElem?_getD, List.getElem?_eq_getElem h1, List.getElem?_eq_getElem h2] at this
  exact this
end Go.Proofs.Ytjmlfjpocjmnpaa
