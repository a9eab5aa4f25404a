/-
  What the form tells of a slice of slices of numbers that came in. No conditions.
-/
import Derived.Test.YtejibbgoniecaaaMem
import Derived.Deep.Matrix
import Derived.OpenShut
namespace Go.Proofs.Ytejibbgoniecaaa
open Go.RowKit Go.ChangeShapes Go.WideShapes

theorem getD_map_range (n r : Nat) (f : Nat → List Int) (h : r < n) : ((List.range n).map f).getD r [] = f r := by
  rw [List.getD_eq_getElem?_getD, List.getElem?_map, List.getElem?_range h]; rfl
theorem getD_take (z : List Int) (k c : Nat) (h : c < k) : (z.take k).getD c 0 = z.getD c 0 := by
  rw [List.getD_eq_getElem?_getD, List.getD_eq_getElem?_getD, List.getElem?_take, if_pos h]
/-- A slice of slices of numbers that came in reads as a list of lists. -/
def Rows2 (w : World) (a : Option Addr) (len cap : Nat) (ls : List (List Int)) : Prop :=
  ls.length = len ∧ len ≤ cap ∧ cap ≤ maxLen ∧ (∀ l ∈ ls, l.length ≤ maxLen) ∧ Mem w w.heap.size a ls
theorem rows_of {H : Type} {enc : TypeId × Value → H} {w : World} {held : Bool} {fuel : Nat} {a : Option Addr} {len cap : Nat} {x : DataW H × List MemPlace}
    (h : DataW.trod enc Try.prog w 0 (fun _ => true) held fuel 22 (Value.cells (.slice a len cap)).toList = some x) : ∃ ls, Rows2 w a len cap ls := by
  rcases Go.Deep.open_int_rows Try.underlying22 Try.underlying24 Try.underlying3 (by kernel_rfl) (by kernel_rfl) h with ⟨hcs, _⟩ | ⟨a', len', cap', A, L, C, Z, hcs, hb, hl, hm, hx, hrow⟩
  · simp [Value.cells] at hcs
    obtain ⟨rfl, rfl, rfl⟩ := hcs
    exact ⟨[], rfl, Nat.le_refl _, Nat.zero_le _, by simp, .inl rfl⟩
  · simp [Value.cells] at hcs
    obtain ⟨rfl, rfl, rfl⟩ := hcs
    refine ⟨(List.range len).map fun r => (Z r).take (L r), by simp, hl, hm, ?_, ?_⟩
    · intro l hl'
      obtain ⟨r, hr, rfl⟩ := List.mem_map.1 hl'
      have hr' := List.mem_range.1 hr
      obtain ⟨_, h1, h2, h3, _⟩ := hrow r (by omega)
      rw [List.length_take]; omega
    · rcases Nat.eq_zero_or_pos len with h0 | h0
      · subst h0; exact .inl rfl
      · have hc0 := (hrow 0 (by omega)).1
        obtain ⟨b, off, spot⟩ := a'
        have hspot : spot = none := by simpa [Addr.add] using World.cell?_spot hc0
        subst hspot
        have hlt := World.block_lt_of_cell? w _ hc0
        refine .inr ⟨b, off, rfl, by simpa [Addr.add] using hlt, fun r hr => ?_⟩
        have hr' : r < len := by simpa using hr
        obtain ⟨h1, h2, h3, h4, h5, h6, h7⟩ := hrow r (by omega)
        have hlen : ((Z r).take (L r)).length = L r := by rw [List.length_take]; omega
        rw [getD_map_range _ _ _ hr', hlen]
        refine ⟨A r, C r, by rw [Addr.add_lit] at h1; exact h1, h2, ?_⟩
        rcases Nat.eq_zero_or_pos (L r) with hz | hz
        · left
          rw [hz]; rfl
        · rcases hA : A r with _ | a2
          · have := h6 hA; omega
          · obtain ⟨_, hcell⟩ := h7 a2 hA
            have hd0 := hcell 0 (by omega)
            obtain ⟨b2, off2, spot2⟩ := a2
            have hspot2 : spot2 = none := by simpa [Addr.add] using World.cell?_spot hd0
            subst hspot2
            have hlt2 := World.block_lt_of_cell? w _ hd0
            refine .inr ⟨b2, off2, rfl, by simpa [Addr.add] using hlt2, fun c hc => ?_⟩
            rw [hlen] at hc
            have := hcell c (by omega)
            rw [Addr.add_lit] at this
            rw [this, getD_take _ _ _ hc]
end Go.Proofs.Ytejibbgoniecaaa
