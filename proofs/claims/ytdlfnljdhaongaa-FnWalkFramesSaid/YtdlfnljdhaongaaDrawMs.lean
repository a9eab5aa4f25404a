/-
  The drawing functions that begin with a memory. No conditions.
-/
import Derived.Test.YtdlfnljdhaongaaDrawM
namespace Go.Proofs.Ytdlfnljdhaongaa
open Go.RowKit

theorem cell_two {w1 w2 : World} {br : Nat} {x y : Int} (hg : (w1.alloc (.cells #[.int .i64 x, .int .i64 y] 3)).grownBy w2 (some br)) (hne : w1.heap.size ≠ br) (k : Int) (h0 : 0 ≤ k) (h1 : k < 2) :
    ∃ v : Int, v ∈ [x, y] ∧ w2.cell? ⟨w1.heap.size, k.toNat, none⟩ = some (.int .i64 v) := cell_of [x, y] hg hne rfl k h0 (by simpa using h1)
/-- A memory drawn: its lists lie behind the first world's blocks, and nothing that was there has turned. -/
def MemDrawn (w w' : World) (v : Value) (ls : List (List Int)) : Prop := OwnM w' w.heap.size w'.heap.size v ls ∧ ls.length ≤ 12 ∧ (∀ i, i < ls.length → (ls.getD i []).length ≤ 4) ∧ Below w.heap.size w w'
theorem MemDrawn.small {w w' : World} {v : Value} {ls : List (List Int)} (h : MemDrawn w w' v ls) : Small ls := Small.of (by have := h.2.1; omega) (fun i hi => by have := h.2.2.1 i hi; omega)
/-- A reader of the call's own: what lies behind it turns no more. -/
theorem MemDrawn.of {w w1 w2 w3 : World} {v : Value} {ls : List (List Int)} (h1 : w.grownBy w1 none) (hb : w.heap.size < w1.heap.size) (h2 : w1.grownBy w2 (some w.heap.size)) (ho : OwnM w2 w1.heap.size w2.heap.size v ls) (hl : ls.length ≤ 12) (hr : ∀ i, i < ls.length → (ls.getD i []).length ≤ 4)
    (h3 : w2.grownBy w3 (some w.heap.size)) : MemDrawn w w3 v ls := by
  have ho3 := ho.turned (lo' := w.heap.size) (hi' := w.heap.size + 1) (Turned.of_row h3 (fun j e => by have := Option.some.inj e; omega)) (.inr (by omega))
  refine ⟨?_, hl, hr, drawn_below h1 (grown_trans h2 h3)⟩
  obtain ⟨vs, v1, v2⟩ := ho3.mono h3.size
  refine ⟨vs, v1, ⟨?_, v2.top, fun i hi => (v2.own i hi).mono (by omega), v2.apart, v2.each⟩⟩
  rcases v2.row.2 with h | ⟨g, cap, cur, e, hbb, r⟩
  · exact ⟨v2.row.1, .inl h⟩
  · exact ⟨v2.row.1, .inr ⟨g, cap, cur, e, by omega, r⟩⟩
/-- A new row of three numbers, and a place in it. -/
def VArr3 (br : Nat) (u : Value) (w : World) : Prop := ∃ b, u = .slice (some ⟨b, 0, none⟩) 3 3 ∧ b ≠ br ∧ ∀ i, i < 3 → ∃ v : Int, w.cell? ⟨b, i, none⟩ = some (.int .i64 v)
def VArrP (br : Nat) (u : Value) (w : World) : Prop := ∃ (b i : Nat) (v : Int), u = .pointer (some ⟨b, i, none⟩) ∧ b ≠ br ∧ w.cell? ⟨b, i, none⟩ = some (.int .i64 v)
theorem VArr3.kept {br : Nat} {u : Value} {w w' : World} (h : VArr3 br u w) (hg : w.grownBy w' (some br)) : VArr3 br u w' := by
  obtain ⟨b, h1, h2, h3⟩ := h
  refine ⟨b, h1, h2, fun i hi => ?_⟩
  obtain ⟨v, hc⟩ := h3 i hi
  exact ⟨v, hg.cell hc (fun e => h2 (Option.some.inj e))⟩
theorem VArrP.kept {br : Nat} {u : Value} {w w' : World} (h : VArrP br u w) (hg : w.grownBy w' (some br)) : VArrP br u w' := by
  obtain ⟨b, i, v, h1, h2, hc⟩ := h
  exact ⟨b, i, v, h1, h2, hg.cell hc (fun e => h2 (Option.some.inj e))⟩
theorem arr3New (x y z : Int) (W : World) {br : Nat} (hlt : br < W.heap.size) : VArr3 br (.slice (some ⟨W.heap.size, 0, none⟩) 3 3) (W.alloc (.cells #[.int .i64 x, .int .i64 y, .int .i64 z] 3)) := by
  refine ⟨W.heap.size, rfl, by omega, fun i hi => ?_⟩
  have : i = 0 ∨ i = 1 ∨ i = 2 := by omega
  rcases this with rfl | rfl | rfl
  · exact ⟨x, cell_new _ _ _ _ _ rfl⟩
  · exact ⟨y, cell_new _ _ _ _ _ rfl⟩
  · exact ⟨z, cell_new _ _ _ _ _ rfl⟩
/-- The reader alone, between the parts of a statement. -/
def AtR (w5 : World) (br q : Nat) (w : World) : Prop := w5.grownBy w (some br) ∧ Rdr w br q
theorem AtR.alloc {w5 w : World} {br q : Nat} (h : AtR w5 br q w) (o : Obj) : AtR w5 br q (w.alloc o) := ⟨grown_alloc h.1 o, h.2.alloc o⟩
theorem AtR.drew {w5 w : World} {br q : Nat} (h : AtR w5 br q w) : AtR w5 br q w.drew := ⟨⟨h.1.os, h.1.tape, h.1.output, h.1.size, h.1.block⟩, h.2.drew⟩
theorem AtR.more {w5 w : World} {br q q' : Nat} (h : AtR w5 br q w) (hq : q ≤ q') : AtR w5 br q' w := ⟨h.1, h.2.mono hq⟩
theorem AtR.call {w5 w w' : World} {br q q' : Nat} (h : AtR w5 br q w) (hg : w.grownBy w' (some br)) (hr : Rdr w' br q') : AtR w5 br q' w' := ⟨grown_trans h.1 hg, hr⟩
end Go.Proofs.Ytdlfnljdhaongaa
