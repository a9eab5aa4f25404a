/-
  Worlds of which some blocks have turned: plain laws (of XMem, without its lists); and a region whose order is open, its callees laying blocks of their own, walked once. No conditions.
-/
import Derived.Test.YtmoalecejjeiiaaOwn
import Derived.Maps.AppendAt
import Derived.Laws.OwnMore
import Derived.Deep.QuietTactic
namespace Go.Proofs.Ytmoalecejjeiiaa
open Go.RowKit

/-- Blocks from lo up to hi may have turned; all others read as before. -/
structure Turned (lo hi : Nat) (w w' : World) : Prop where
  os : w'.os = w.os
  tape : w'.tape = w.tape
  output : w'.output = w.output
  size : w.heap.size ≤ w'.heap.size
  block : ∀ k, k < w.heap.size → ¬ (lo ≤ k ∧ k < hi) → w'.heap[k]? = w.heap[k]?

theorem Turned.refl (lo hi : Nat) (w : World) : Turned lo hi w w := ⟨rfl, rfl, rfl, Nat.le_refl _, fun _ _ _ => rfl⟩
theorem Turned.trans {lo hi : Nat} {a b c : World} (h : Turned lo hi a b) (k : Turned lo hi b c) : Turned lo hi a c :=
  ⟨k.os.trans h.os, k.tape.trans h.tape, k.output.trans h.output, Nat.le_trans h.size k.size, fun j hj hne => (k.block j (by have := h.size; omega) hne).trans (h.block j hj hne)⟩
theorem Turned.mono {lo hi lo' hi' : Nat} {w w' : World} (h : Turned lo hi w w') (h1 : lo' ≤ lo) (h2 : hi ≤ hi') : Turned lo' hi' w w' :=
  ⟨h.os, h.tape, h.output, h.size, fun j hj hne => h.block j hj (by omega)⟩
theorem Turned.of_none {w w' : World} (h : w.grownBy w' none) (lo hi : Nat) : Turned lo hi w w' :=
  ⟨h.os, h.tape, h.output, h.size, fun j hj _ => h.block j hj (fun e => by cases e)⟩
theorem Turned.of_row {w w' : World} {row : Option Nat} {lo hi : Nat} (h : w.grownBy w' row) (hr : ∀ k, row = some k → lo ≤ k ∧ k < hi) : Turned lo hi w w' :=
  ⟨h.os, h.tape, h.output, h.size, fun j hj hne => h.block j hj (fun e => hne (hr j e.symm))⟩
theorem Turned.gnone {lo hi : Nat} {w w' : World} (h : Turned lo hi w w') (hl : w.heap.size ≤ lo) : w.grownBy w' none :=
  ⟨h.os, h.tape, h.output, h.size, fun j hj _ => h.block j hj (by omega)⟩
theorem Turned.below {lo hi B : Nat} {w w' : World} (h : Turned lo hi w w') (hl : B ≤ lo) (hB : B ≤ w.heap.size) : Below B w w' :=
  ⟨h.os, h.tape, h.output, h.size, fun j hj => h.block j (by omega) (by omega)⟩
theorem Turned.setCell {lo hi : Nat} {w w' : World} (h : Turned lo hi w w') {p : Addr} (hp : (lo ≤ p.block ∧ p.block < hi) ∨ w.heap.size ≤ p.block) (u : Value) : Turned lo hi w (w'.setCell p u) :=
  ⟨h.os, h.tape, h.output, by simpa [World.setCell] using h.size, fun j hj hne => (Below.heap_setCell w' p u j (by omega)).trans (h.block j hj hne)⟩
theorem Turned.alloc {lo hi : Nat} {w w' : World} (h : Turned lo hi w w') (o : Obj) : Turned lo hi w (w'.alloc o) := h.trans (Turned.of_none (World.grownBy_alloc w' o _) _ _)
theorem Turned.drewN {lo hi : Nat} {w w' : World} (h : Turned lo hi w w') (n : Nat) : Turned lo hi w (w'.drewN n) := ⟨h.os, h.tape, h.output, h.size, h.block⟩
theorem none_drewN {w w' : World} (h : w.grownBy w' none) (n : Nat) : w.grownBy (w'.drewN n) none := ⟨h.os, h.tape, h.output, h.size, h.block⟩
theorem drewN_none (w : World) (n : Nat) : w.grownBy (w.drewN n) none := ⟨rfl, rfl, rfl, Nat.le_refl _, fun _ _ _ => rfl⟩
theorem none_trans {a b c : World} (h : a.grownBy b none) (k : b.grownBy c none) : a.grownBy c none := grown_trans h k
theorem none_alloc {a b : World} (h : a.grownBy b none) (o : Obj) : a.grownBy (b.alloc o) none := grown_alloc h o
/-- A cell of a block that was made behind the first world. -/
theorem none_setCell {a b : World} (h : a.grownBy b none) {p : Addr} (hp : a.heap.size ≤ p.block) (u : Value) : a.grownBy (b.setCell p u) none :=
  ⟨h.os, h.tape, h.output, by simpa [World.setCell] using h.size, fun j hj hne => (Below.heap_setCell b p u j (by omega)).trans (h.block j hj hne)⟩
theorem below_none {B : Nat} {w w1 w2 : World} (h : Below B w w1) (hB : B ≤ w.heap.size) (hg : w1.grownBy w2 none) : Below B w w2 :=
  h.trans ⟨hg.os, hg.tape, hg.output, hg.size, fun k hk => hg.block k (by have := h.size; omega) (fun e => by cases e)⟩
theorem below_drew {B : Nat} {w w1 : World} (h : Below B w w1) (n : Nat) : Below B w (w1.drewN n) := ⟨h.os, h.tape, h.output, h.size, h.block⟩

/-- A quiet callee behind draws that have been joined. -/
theorem quiet_joined {P : Program} {f : FuncId} {args : Array Value} {w : World} {a n : Nat} {v : Value}
    (h : Calls P f args (w.drewN (a + n)) fun e w' => e = .returned v ∧ ∃ m, w' = (w.drewN (a + n)).drewN m) : Calls P f args (w.drewN (a + n)) fun e w'' => e = .returned v ∧ ∃ m, w'' = w.drewN (a + m) :=
  h.mono fun _ _ ⟨he, m, hm⟩ => ⟨he, n + m, by rw [hm, World.drewN_drewN, Nat.add_assoc]⟩

theorem ownsRow_turned {w w' : World} {lo hi lo' hi' : Nat} {e : TypeId} {size n : Nat} {v : Value} {xs : List Value} (h : w.ownsRow lo e size v n xs) (hg : Turned lo' hi' w w') (hh : ∀ g, v.ownBlock = some g → g < hi) (hd : hi ≤ lo' ∨ hi' ≤ lo) : w'.ownsRow lo e size v n xs := by
  rcases h.2 with ⟨rfl, h0⟩ | ⟨g, cap, cur, rfl, hb, hgr, hn, hm, hs, ht⟩
  · exact ⟨h.1, .inl ⟨rfl, h0⟩⟩
  · have hlt := hh g rfl
    refine ⟨h.1, .inr ⟨g, cap, cur, rfl, hb, ?_, hn, hm, hs, ht⟩⟩
    rw [hg.block g (Array.getElem?_eq_some_iff.1 hgr).1 (by omega)]
    exact hgr

/-- A world that has grown out of w. -/
structure GW (w : World) where
  v : World
  h : w.grownBy v none
instance (w : World) : Inhabited (GW w) := ⟨⟨w, grown_refl _ _⟩⟩
theorem wp_region_quiet_gw {P : Program} {id : Nat} {Q : Exit → Act → World → Prop} {a : Act} {w : World} {l : List Oper} (hm : P.follows .mixedOrders = true) (hB : Region.lexB .any l.toArray = true)
    (h : wpQuiet P l.toArray (fun w' => ∃ p : GW w, w' = p.v) (fun a' => ∀ w', (∃ p : GW w, w' = p.v) → Q .normal a' w') l a) : (Code.region id l.toArray true).wp P Q a w :=
  wp_region_quiet (C := fun w' => ∃ p : GW w, w' = p.v) hm hB ⟨⟨w.drewN 1, drewN_none w 1⟩, rfl⟩ (by simpa using h)
theorem Calls.gw_of {P : Program} {f : FuncId} {args : Array Value} {w : World} {p : GW w} {v : Value}
    (h : Calls P f args p.v fun e w' => e = .returned v ∧ p.v.grownBy w' none) : Calls P f args p.v fun e w'' => e = .returned v ∧ ∃ q : GW w, w'' = q.v :=
  h.mono fun _ w' ⟨he, hg⟩ => ⟨he, ⟨w', none_trans p.h hg⟩, rfl⟩
theorem Calls.gw_same {P : Program} {f : FuncId} {args : Array Value} {w : World} {p : GW w} {v : Value}
    (h : Calls P f args p.v fun e w' => e = .returned v ∧ p.v = w') : Calls P f args p.v fun e w'' => e = .returned v ∧ ∃ q : GW w, w'' = q.v :=
  h.mono fun _ w' ⟨he, hg⟩ => ⟨he, p, hg.symm⟩
end Go.Proofs.Ytmoalecejjeiiaa
