/-
  Plain laws on numbers and worlds; no program in sight. No conditions.
-/
import Derived.WalkKit
import Derived.ProofKit
import Derived.Lib.Hide
import Derived.Laws.BitsLemmas
namespace Go.Proofs.Ytjmlfjpocjmnpaa
open Go.RowKit

theorem i64_xor_nat (a b : Nat) (ha0 : a < 1099511627776) (hb0 : b < 1099511627776) : bits .xor .i64 (a : Int) (b : Int) = ((a ^^^ b : Nat) : Int) := by
  have ha : a < 2 ^ 40 := by simpa using ha0
  have hb : b < 2 ^ 40 := by simpa using hb0
  have hp : (2 : Nat) ^ 40 ≤ 2 ^ IntKind.i64.bits := by decide
  have ha' : a % 2 ^ IntKind.i64.bits = a := Nat.mod_eq_of_lt (Nat.lt_of_lt_of_le ha hp)
  have hb' : b % 2 ^ IntKind.i64.bits = b := Nat.mod_eq_of_lt (Nat.lt_of_lt_of_le hb hp)
  have hx : a ^^^ b < 1099511627776 := by simpa using Nat.xor_lt_two_pow ha hb
  simp only [bits, BitVec.ofInt_natCast, BitVec.toNat_xor, BitVec.toNat_ofNat, ha', hb']
  rw [IntKind.wrap_i64]
  clear ha hb hp ha' hb'
  omega

theorem xor_nonneg (x y : Int) (h0 : 0 ≤ x) (h1 : x < 1000000000000) (h2 : 0 ≤ y) (h3 : y < 1000000000000) : 0 ≤ bits .xor .i64 x y := by
  obtain ⟨a, rfl⟩ := Int.eq_ofNat_of_zero_le h0
  obtain ⟨b, rfl⟩ := Int.eq_ofNat_of_zero_le h2
  rw [i64_xor_nat a b (by omega) (by omega)]
  omega

theorem tmod_bd (x n : Int) (hx : 0 ≤ x) (hn : 1 ≤ n) : 0 ≤ x.tmod n ∧ x.tmod n < n := by
  rw [Int.tmod_eq_emod_of_nonneg hx]
  exact ⟨Int.emod_nonneg _ (by omega), Int.emod_lt_of_pos _ (by omega)⟩

theorem mix_bd (v u p d n : Int) (hv : 0 ≤ v) (hv1 : v ≤ 255) (hu : 0 ≤ u) (hu1 : u ≤ 255) (hp : 0 ≤ p) (hp1 : p ≤ 1000000) (hd : 0 ≤ d) (hd1 : d ≤ p) (hn : 1 ≤ n) :
    0 ≤ (bits .xor .i64 (v * 131 + u * 1117 + p * 29 + d * 53) ((v * 131 + u * 1117 + p * 29 + d * 53) / 64)).tmod n ∧
      (bits .xor .i64 (v * 131 + u * 1117 + p * 29 + d * 53) ((v * 131 + u * 1117 + p * 29 + d * 53) / 64)).tmod n < n :=
  tmod_bd _ _ (xor_nonneg _ _ (by omega) (by omega) (by omega) (by omega)) hn

theorem cell_new (w : World) (c : Array Value) (t : TypeId) (i : Nat) (v : Value) (h : c[i]? = some v) : (w.alloc (.cells c t)).cell? ⟨w.heap.size, i, none⟩ = some v := by
  unfold World.cell?
  rw [show (w.alloc (.cells c t)).heap[(⟨w.heap.size, i, none⟩ : Addr).block]? = some (.cells c t) from heap_alloc_new w _]
  simpa using h
theorem grown_trans {a b c : World} {r : Option Nat} (h : a.grownBy b r) (k : b.grownBy c r) : a.grownBy c r :=
  ⟨k.os.trans h.os, k.tape.trans h.tape, k.output.trans h.output, Nat.le_trans h.size k.size, fun j hj hne => (k.block j (by have := h.size; omega) hne).trans (h.block j hj hne)⟩
theorem grown_refl (a : World) (r : Option Nat) : a.grownBy a r := ⟨rfl, rfl, rfl, Nat.le_refl _, fun _ _ _ => rfl⟩
theorem grown_alloc {a b : World} {r : Option Nat} (h : a.grownBy b r) (o : Obj) : a.grownBy (b.alloc o) r := grown_trans h (World.grownBy_alloc b o r)
/-- The cells of a new row of three numbers behind a call that wrote to block br alone. -/
theorem cell_kept {w1 w2 : World} {br : Nat} {c : Array Value} {t : TypeId} (hg : (w1.alloc (.cells c t)).grownBy w2 (some br)) (hne : w1.heap.size ≠ br) {i : Nat} {v : Value} (hv : c[i]? = some v) : w2.cell? ⟨w1.heap.size, i, none⟩ = some v :=
  hg.cell (a := ⟨w1.heap.size, i, none⟩) (cell_new w1 c t i v hv) (fun e => hne (Option.some.inj e))
theorem cell_of {w1 w2 : World} {br : Nat} {c : Array Value} {t : TypeId} (l : List Int) (hg : (w1.alloc (.cells c t)).grownBy w2 (some br)) (hne : w1.heap.size ≠ br) (hc : c = (l.map (Value.int .i64)).toArray) (k : Int) (h0 : 0 ≤ k) (h1 : k < l.length) :
    ∃ v : Int, v ∈ l ∧ w2.cell? ⟨w1.heap.size, k.toNat, none⟩ = some (.int .i64 v) := by
  subst hc
  have hk : k.toNat < l.length := by omega
  exact ⟨l[k.toNat], List.getElem_mem hk, cell_kept hg hne (by simp [hk])⟩

end Go.Proofs.Ytjmlfjpocjmnpaa
