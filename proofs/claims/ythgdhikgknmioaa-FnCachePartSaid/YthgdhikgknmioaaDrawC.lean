/-
  The drawing of caches. No conditions.
-/
import Derived.Test.YthgdhikgknmioaaCachePut
import Derived.Test.YthgdhikgknmioaaRd
namespace Go.Proofs.Ythgdhikgknmioaa
open Go.RowKit
attribute [local irreducible] Go.wpQuiet

/-- A translation in a block of its own. -/
def BoxAt (w : World) (b : Nat) (x : CachedV) : Prop := w.heap[b]? = some (.cells #[.int .i64 x.e, .int .i64 x.p, .int .i64 x.f, .bool x.b] 30 (0, 0))
theorem BoxAt.new (w : World) (x : CachedV) : BoxAt (w.alloc (.cells #[.int .i64 x.e, .int .i64 x.p, .int .i64 x.f, .bool x.b] 30)) w.heap.size x := heap_alloc_new w _
theorem BoxAt.lt {w : World} {b : Nat} {x : CachedV} (h : BoxAt w b x) : b < w.heap.size := (Array.getElem?_eq_some_iff.1 h).1
theorem BoxAt.kept {w w' : World} {b : Nat} {x : CachedV} {row : Option Nat} (h : BoxAt w b x) (hg : w.grownBy w' row) (hne : row ≠ some b) : BoxAt w' b x := (hg.block b h.lt hne.symm).trans h
theorem BoxAt.cells {w : World} {b : Nat} {x : CachedV} (h : BoxAt w b x) : (w.cell? ⟨b, 0, none⟩ = some (.int .i64 x.e) ∧ w.cell? ⟨b, 1, none⟩ = some (.int .i64 x.p) ∧ w.cell? ⟨b, 2, none⟩ = some (.int .i64 x.f) ∧ w.cell? ⟨b, 3, none⟩ = some (.bool x.b)) ∧
    (w.frozen? ⟨b, 0, none⟩ = false ∧ w.frozen? ⟨b, 1, none⟩ = false ∧ w.frozen? ⟨b, 2, none⟩ = false ∧ w.frozen? ⟨b, 3, none⟩ = false) := by
  unfold BoxAt at h
  refine ⟨⟨?_, ?_, ?_, ?_⟩, ⟨?_, ?_, ?_, ?_⟩⟩ <;> simp [World.cell?, World.frozen?, h]
theorem grown_setNew {a b : World} {row : Option Nat} (h : a.grownBy b row) {p : Addr} (hp : a.heap.size ≤ p.block) (u : Value) : a.grownBy (b.setCell p u) row :=
  ⟨h.os, h.tape, h.output, by simpa [World.setCell] using h.size, fun j hj hne => (Below.heap_setCell b p u j (by omega)).trans (h.block j hj hne)⟩
theorem Rdr.set_ {w : World} {br q : Nat} (h : Rdr w br q) {p : Addr} (hp : br < p.block) (u : Value) : Rdr (w.setCell p u) br q := h.of_blocks fun j hj => Below.heap_setCell w p u j (by omega)
theorem grown_none_r {w w' : World} {row : Option Nat} (h : w.grownBy w' none) : w.grownBy w' row := grown_none_row h row
theorem BoxAt.other {w : World} {b : Nat} {x : CachedV} (h : BoxAt w b x) {p : Addr} (hne : b ≠ p.block) (u : Value) : BoxAt (w.setCell p u) b x := (Below.heap_setCell w p u b hne).trans h
theorem BoxAt.set0 {w : World} {b : Nat} {x : CachedV} (h : BoxAt w b x) (v : Int) : BoxAt (w.setCell ⟨b, 0, none⟩ (.int .i64 v)) b ⟨v, x.p, x.f, x.b⟩ := by
  unfold BoxAt at h ⊢
  simp [World.setCell, Array.getElem?_modify, h]
theorem BoxAt.set1 {w : World} {b : Nat} {x : CachedV} (h : BoxAt w b x) (v : Int) : BoxAt (w.setCell ⟨b, 1, none⟩ (.int .i64 v)) b ⟨x.e, v, x.f, x.b⟩ := by
  unfold BoxAt at h ⊢
  simp [World.setCell, Array.getElem?_modify, h]
theorem BoxAt.set2 {w : World} {b : Nat} {x : CachedV} (h : BoxAt w b x) (v : Int) : BoxAt (w.setCell ⟨b, 2, none⟩ (.int .i64 v)) b ⟨x.e, x.p, v, x.b⟩ := by
  unfold BoxAt at h ⊢
  simp [World.setCell, Array.getElem?_modify, h]
theorem BoxAt.set3 {w : World} {b : Nat} {x : CachedV} (h : BoxAt w b x) (v : Bool) : BoxAt (w.setCell ⟨b, 3, none⟩ (.bool v)) b ⟨x.e, x.p, x.f, v⟩ := by
  unfold BoxAt at h ⊢
  simp [World.setCell, Array.getElem?_modify, h]
/-- Where the drawing of a translation stands: the result's block b0, the variable's block b1. -/
structure InC (w : World) (br b1 q : Nat) (x : CachedV) (w' : World) : Prop where
  grown : w.grownBy w' (some br)
  rdr : Rdr w' br q
  box0 : BoxAt w' w.heap.size c0V
  box1 : BoxAt w' b1 x
  lt : br < w.heap.size
  lt1 : w.heap.size < b1
theorem InC.call {w w1 w2 : World} {br b1 q q' : Nat} {x : CachedV} (h : InC w br b1 q x w1) (hg : w1.grownBy w2 (some br)) (hr : Rdr w2 br q') : InC w br b1 q' x w2 :=
  ⟨grown_trans h.grown hg, hr, h.box0.kept hg (fun e => by have := Option.some.inj e; have := h.lt; omega), h.box1.kept hg (fun e => by have := Option.some.inj e; have := h.lt; have := h.lt1; omega), h.lt, h.lt1⟩
theorem InC.alloc {w w1 : World} {br b1 q : Nat} {x : CachedV} (h : InC w br b1 q x w1) (o : Obj) : InC w br b1 q x (w1.alloc o) :=
  ⟨grown_alloc h.grown o, h.rdr.alloc o, h.box0.kept (World.grownBy_alloc w1 o none) (by simp), h.box1.kept (World.grownBy_alloc w1 o none) (by simp), h.lt, h.lt1⟩
theorem InC.set {w w1 : World} {br b1 q : Nat} {x : CachedV} (h : InC w br b1 q x w1) (o : Nat) (u : Value) {y : CachedV} (hy : BoxAt (w1.setCell ⟨b1, o, none⟩ u) b1 y) : InC w br b1 q y (w1.setCell ⟨b1, o, none⟩ u) :=
  ⟨grown_setNew h.grown (by have := h.lt1; show w.heap.size ≤ b1; omega) u, h.rdr.set_ (by have := h.lt; have := h.lt1; show br < b1; omega) u, h.box0.other (by have := h.lt1; show w.heap.size ≠ b1; omega) u, hy, h.lt, h.lt1⟩
theorem InC.fin {w w1 : World} {br b1 q : Nat} {x : CachedV} (h : InC w br b1 q x w1) (u0 u1 u2 u3 : Value) :
    w.grownBy ((((w1.setCell ⟨w.heap.size, 0, none⟩ u0).setCell ⟨w.heap.size, 1, none⟩ u1).setCell ⟨w.heap.size, 2, none⟩ u2).setCell ⟨w.heap.size, 3, none⟩ u3) (some br) ∧
    Rdr ((((w1.setCell ⟨w.heap.size, 0, none⟩ u0).setCell ⟨w.heap.size, 1, none⟩ u1).setCell ⟨w.heap.size, 2, none⟩ u2).setCell ⟨w.heap.size, 3, none⟩ u3) br q :=
  ⟨grown_setNew (grown_setNew (grown_setNew (grown_setNew h.grown (Nat.le_refl _) _) (Nat.le_refl _) _) (Nat.le_refl _) _) (Nat.le_refl _) _, (((h.rdr.set_ h.lt _).set_ h.lt _).set_ h.lt _).set_ h.lt _⟩
set_option maxHeartbeats 1000000 in
theorem l91Cached_c (br q : Nat) (w : World) (h : Rdr w br q) (hq : q ≤ 800000) :
    Calls Try.prog 34 #[.pointer (some ⟨br, 0, none⟩)] w fun e w' => ∃ x : CachedV, e = .returned (.agg #[.int .i64 x.e, .int .i64 x.p, .int .i64 x.f, .bool x.b]) ∧ w.grownBy w' (some br) ∧ Rdr w' br (q + 10) := by
  have H := Lib.hid h
  have hlt := h.lt
  clear h
  go_enter Try.func34, Try.ntmps34
  go_wp2_with fail
  have hb0 : BoxAt (w.alloc (.cells #[.int .i64 0, .int .i64 0, .int .i64 0, .bool false] 30)) w.heap.size c0V := BoxAt.new w c0V
  refine (pick_c br q 3 _ (H.out.alloc _) (by omega) (by omega) (by omega)).mono ?_
  rintro e w1 ⟨m1, k1, j1, rfl, hg1, hr1⟩
  have HG1 : Hid (w.grownBy w1 (some br)) := grown_trans (World.grownBy_alloc _ _ _) hg1
  have HB1 := Lib.hid (hb0.kept hg1 (fun e => by have := Option.some.inj e; omega))
  clear hg1 hb0
  go_wp2_with fail
  refine (pick_c br _ 4 _ hr1 (by omega) (by omega) (by omega)).mono ?_
  rintro e w2 ⟨m2, k2, j2, rfl, hg2, hr2⟩
  have HG2 := Lib.hid (grown_trans HG1.out hg2)
  have HB2 := Lib.hid (HB1.out.kept hg2 (fun e => by have := Option.some.inj e; omega))
  clear hg2 hr1 HG1 HB1
  go_wp2_with fail
  refine (pick_c br _ 12 _ hr2 (by omega) (by omega) (by omega)).mono ?_
  rintro e w3 ⟨m3, k3, j3, rfl, hg3, hr3⟩
  have HG3 := Lib.hid (grown_trans HG2.out hg3)
  have HB3 := Lib.hid (HB2.out.kept hg3 (fun e => by have := Option.some.inj e; omega))
  clear hg3 hr2 HG2 HB2
  go_wp2_with fail
  have HW3 : Hid (InC w br w3.heap.size _ ⟨m1, m2, m3, false⟩ (w3.alloc (.cells #[.int .i64 m1, .int .i64 m2, .int .i64 m3, .bool false] 30))) :=
    ⟨grown_alloc HG3.out _, hr3.alloc _, HB3.out.kept (World.grownBy_alloc w3 _ none) (by simp), BoxAt.new w3 ⟨m1, m2, m3, false⟩, hlt, HB3.out.lt⟩
  clear hr3 HG3 HB3
  refine (pick_c br _ 2 _ HW3.out.rdr (by omega) (by omega) (by omega)).mono ?_
  rintro e w4 ⟨m4, k4, j4, rfl, hg4, hr4⟩
  have HW4 := Lib.hid (HW3.out.call hg4 hr4)
  obtain ⟨⟨y0, y1, y2, y3⟩, ⟨z0, z1, z2, z3⟩⟩ := HW4.out.box1.cells
  clear hg4 hr4 HW3
  have HW5 : Hid (InC w br w3.heap.size (q + 1 + 1 + 1 + 1) ⟨m1, m2, m3, m4 == 0⟩ (w4.setCell ⟨w3.heap.size, 3, none⟩ (.bool (m4 == 0)))) := HW4.out.set 3 _ (HW4.out.box1.set3 (m4 == 0))
  clear HW4
  go_wp2_with fail
  clear y0 y1 y2 y3 z0 z1 z2 z3
  refine (pick_c br _ 24 _ HW5.out.rdr (by omega) (by omega) (by omega)).mono ?_
  rintro e w6 ⟨m5, k5, j5, rfl, hg6, hr6⟩
  have HW6 := Lib.hid (HW5.out.call hg6 hr6)
  clear hg6 hr6 HW5
  by_cases h0 : m5 = 0
  · subst h0
    go_wp2_with fail
    refine (pick_c br _ 2 _ (HW6.out.rdr.alloc _) (by omega) (by omega) (by omega)).mono ?_
    rintro e w7 ⟨k7, k70, k71, rfl, hg7, hr7⟩
    have hne : w6.heap.size ≠ br := by have := HW6.out.rdr.lt; omega
    obtain ⟨v, hv, hcell⟩ := cell_of [-1, 3] hg7 hne rfl k7 k70 (by simpa using k71)
    have HW7 := Lib.hid ((HW6.out.alloc _).call hg7 hr7)
    obtain ⟨⟨y0, y1, y2, y3⟩, ⟨z0, z1, z2, z3⟩⟩ := HW7.out.box1.cells
    obtain ⟨⟨a0, a1, a2, a3⟩, ⟨f0, f1, f2, f3⟩⟩ := HW7.out.box0.cells
    have hn1 : w.heap.size ≠ w3.heap.size := by have := HW7.out.lt1; omega
    clear hg7 hr7 hne hv
    have HX : Hid (InC w br w3.heap.size (q + 1 + 1 + 1 + 1 + 1 + 1) ⟨v, m2, m3, m4 == 0⟩ (w7.setCell ⟨w3.heap.size, 0, none⟩ (.int .i64 v))) := HW7.out.set 0 _ (HW7.out.box1.set0 v)
    clear HW7 HW6
    go_wp2_with fail
    have HF := Lib.hid (HX.out.fin (.int .i64 v) (.int .i64 m2) (.int .i64 m3) (.bool (m4 == 0)))
    refine bodyPost_ret (v := .agg #[.int .i64 v, .int .i64 m2, .int .i64 m3, .bool (m4 == 0)]) (by rw [results_cell1 rfl]; go_simp) rfl ?_
    exact ⟨⟨v, m2, m3, m4 == 0⟩, rfl, HF.out.1, HF.out.2.mono (by omega)⟩
  have h0' : (m5 == 0) = false := by simpa using h0
  by_cases h1 : m5 = 1
  · subst h1
    go_wp2_with fail
    refine (pick_c br _ 3 _ (HW6.out.rdr.alloc _) (by omega) (by omega) (by omega)).mono ?_
    rintro e w7 ⟨k7, k70, k71, rfl, hg7, hr7⟩
    have hne : w6.heap.size ≠ br := by have := HW6.out.rdr.lt; omega
    obtain ⟨v, hv, hcell⟩ := cell_of [-1, 15, 16] hg7 hne rfl k7 k70 (by simpa using k71)
    have HW7 := Lib.hid ((HW6.out.alloc _).call hg7 hr7)
    obtain ⟨⟨y0, y1, y2, y3⟩, ⟨z0, z1, z2, z3⟩⟩ := HW7.out.box1.cells
    obtain ⟨⟨a0, a1, a2, a3⟩, ⟨f0, f1, f2, f3⟩⟩ := HW7.out.box0.cells
    have hn1 : w.heap.size ≠ w3.heap.size := by have := HW7.out.lt1; omega
    clear hg7 hr7 hne hv
    have HX : Hid (InC w br w3.heap.size (q + 1 + 1 + 1 + 1 + 1 + 1) ⟨m1, v, m3, m4 == 0⟩ (w7.setCell ⟨w3.heap.size, 1, none⟩ (.int .i64 v))) := HW7.out.set 1 _ (HW7.out.box1.set1 v)
    clear HW7 HW6
    go_wp2_with fail
    have HF := Lib.hid (HX.out.fin (.int .i64 m1) (.int .i64 v) (.int .i64 m3) (.bool (m4 == 0)))
    refine bodyPost_ret (v := .agg #[.int .i64 m1, .int .i64 v, .int .i64 m3, .bool (m4 == 0)]) (by rw [results_cell1 rfl]; go_simp) rfl ?_
    exact ⟨⟨m1, v, m3, m4 == 0⟩, rfl, HF.out.1, HF.out.2.mono (by omega)⟩
  have h1' : (m5 == 1) = false := by simpa using h1
  by_cases h2 : m5 = 2
  · subst h2
    go_wp2_with fail
    refine (l91Frame_c br _ _ HW6.out.rdr (by omega)).mono ?_
    rintro e w7 ⟨v, -, -, rfl, hg7, hr7⟩
    have HW7 := Lib.hid (HW6.out.call hg7 hr7)
    obtain ⟨⟨y0, y1, y2, y3⟩, ⟨z0, z1, z2, z3⟩⟩ := HW7.out.box1.cells
    obtain ⟨⟨a0, a1, a2, a3⟩, ⟨f0, f1, f2, f3⟩⟩ := HW7.out.box0.cells
    have hn1 : w.heap.size ≠ w3.heap.size := by have := HW7.out.lt1; omega
    clear hg7 hr7
    have HX : Hid (InC w br w3.heap.size (q + 1 + 1 + 1 + 1 + 1 + 2) ⟨m1, m2, v, m4 == 0⟩ (w7.setCell ⟨w3.heap.size, 2, none⟩ (.int .i64 v))) := HW7.out.set 2 _ (HW7.out.box1.set2 v)
    clear HW7 HW6
    go_wp2_with fail
    have HF := Lib.hid (HX.out.fin (.int .i64 m1) (.int .i64 m2) (.int .i64 v) (.bool (m4 == 0)))
    refine bodyPost_ret (v := .agg #[.int .i64 m1, .int .i64 m2, .int .i64 v, .bool (m4 == 0)]) (by rw [results_cell1 rfl]; go_simp) rfl ?_
    exact ⟨⟨m1, m2, v, m4 == 0⟩, rfl, HF.out.1, HF.out.2.mono (by omega)⟩
  have h2' : (m5 == 2) = false := by simpa using h2
  obtain ⟨⟨y0, y1, y2, y3⟩, ⟨z0, z1, z2, z3⟩⟩ := HW6.out.box1.cells
  obtain ⟨⟨a0, a1, a2, a3⟩, ⟨f0, f1, f2, f3⟩⟩ := HW6.out.box0.cells
  have hn1 : w.heap.size ≠ w3.heap.size := by have := HW6.out.lt1; omega
  have HF := Lib.hid (HW6.out.fin (.int .i64 m1) (.int .i64 m2) (.int .i64 m3) (.bool (m4 == 0)))
  clear HW6
  go_wp2_with fail
  refine bodyPost_ret (v := .agg #[.int .i64 m1, .int .i64 m2, .int .i64 m3, .bool (m4 == 0)]) (by rw [results_cell1 rfl]; go_simp) rfl ?_
  exact ⟨⟨m1, m2, m3, m4 == 0⟩, rfl, HF.out.1, HF.out.2.mono (by omega)⟩
theorem cpL_four {cs : List CachedV} {x : CachedV} (h : cpB cs x = true) : (cpL cs x).length ≤ 4 ∧ 0 < (cpL cs x).length := by
  unfold cpL
  rw [h]
  exact ⟨((ccB_iff _).1 (putC_ok h)).1, by simp [putC]⟩
set_option maxHeartbeats 1000000 in
theorem l91Cache_c (br q : Nat) (w : World) (h : Rdr w br q) (hq : q ≤ 100000) :
    Calls Try.prog 23 #[.pointer (some ⟨br, 0, none⟩)] w fun e w' => ∃ (v : Value) (cs : List CachedV), e = .returned v ∧ OwnC w' w.heap.size v cs ∧ cs.length ≤ 8 ∧ w.grownBy w' (some br) ∧ Rdr w' br (q + 100) := by
  have H := Lib.hid h
  have hlt := h.lt
  clear h
  have HL := Lib.hid (OwnC.lit w w.heap.size (Nat.le_refl _))
  go_enter Try.func23, Try.ntmps23
  go_wp2_with fail
  refine (pick_c br q 6 _ (H.out.alloc _) (by omega) (by omega) (by omega)).mono ?_
  rintro e w1 ⟨n, n0, n1, rfl, hg1, hr1⟩
  have HG1 : Hid (w.grownBy w1 (some br)) := grown_trans (World.grownBy_alloc _ _ _) hg1
  have HO1 : Hid (OwnC w1 w.heap.size (.slice (some ⟨w.heap.size, 0, none⟩) 0 0) []) := HL.out.kept hg1 (.inr (fun e => by have := Option.some.inj (show some w.heap.size = some br from e); omega))
  have HR1 := Lib.hid hr1
  clear hg1 hr1 HL H
  go_wp2_with fail
  go_loopw [3, 5] (fun v i wr => ∃ k : Nat, k ≤ 5 ∧ (k : Int) ≤ n ∧ i = .int .i64 k ∧ Hid (w.grownBy wr (some br) ∧ Rdr wr br (q + 1 + 10 * k) ∧ v ≠ .slice none 0 0 ∧ ∃ cs, cs.length ≤ 4 ∧ OwnC wr w.heap.size v cs)) (fun _ i _ => (n - intOf i).toNat)
  case atStart => exact ⟨0, by omega, n0, rfl, HG1.out, HR1.out, (fun e => by cases e), [], by simp, HO1.out⟩
  case round =>
    obtain ⟨k, hk, hkn, rfl, HX⟩ := hrel
    by_cases hlt2 : (k : Int) < n
    · obtain ⟨hg, hr, hnn, cs, hc4, ho⟩ := HX.out
      have HG := Lib.hid hg
      have HO := Lib.hid ho
      have HR := Lib.hid hr
      have HC := Lib.hid hc4
      have hsz := hg.size
      clear hg ho hr hnn hc4
      go_wp2_with fail
      refine (l91Cached_c br _ _ HR.out (by omega)).mono ?_
      rintro e w2 ⟨x, rfl, hg2, hr2⟩
      have HO2 : Hid (OwnC w2 w.heap.size _ cs) := HO.out.kept hg2 (.inr (fun e => by have := (HO.out.lt _ e).1; omega))
      obtain ⟨a2, c2, rfl, hk2, hm2, hmem⟩ := HO2.out.caches (fun g e => (HO2.out.lt g e).2)
      have HM := Lib.hid hmem
      have HG2 := Lib.hid (grown_trans HG.out hg2)
      have HR2 := Lib.hid hr2
      clear hg2 hr2 hmem hk2 hm2
      go_wp2_with fail
      refine (specCachePut_c w2.heap.size a2 c2 cs x _ HM.out (Nat.le_refl _) (by have := HC.out; omega)).mono ?_
      rintro e w3 ⟨v, rfl, ho, hg⟩
      have hs2 := HG2.out.size
      have HO3 : Hid (OwnC w3 w.heap.size v (cpL cs x)) := ho.mono (by omega)
      have HO4 : Hid (OwnC w3 w.heap.size _ cs) := HO2.out.gnone hg
      have HG3 : Hid (w.grownBy w3 (some br)) := grown_trans HG2.out (grown_none_r hg)
      have HR3 : Hid (Rdr w3 br (q + 1 + 10 * k + 10)) := HR2.out.of_blocks fun j hj => hg.block j (by have := HR2.out.lt; omega) (fun e => by cases e)
      clear ho hg
      rcases hcp : cpB cs x
      · go_wp2_with fail
        go_roundw
        case rel => exact ⟨k + 1, by omega, by omega, by go_num, HG3.out, HR3.out.mono (by omega), HX.out.2.2.1, cs, HC.out, HO4.out⟩
        case measure => simp [intOf]; omega
      · have HF := Lib.hid (cpL_four hcp)
        go_wp2_with fail
        go_roundw
        case rel => exact ⟨k + 1, by omega, by omega, by go_num, HG3.out, HR3.out.mono (by omega), own_some HO3.out HF.out.2, _, HF.out.1, HO3.out⟩
        case measure => simp [intOf]; omega
    · obtain ⟨hg, hr, hnn, cs, hc4, ho⟩ := HX.out
      rcases ho.cases with ⟨e, _⟩ | ⟨g, c, rfl, hgb, hgl, _, _⟩
      · exact absurd e hnn
      have HG := Lib.hid hg
      have HO := Lib.hid ho
      have HR := Lib.hid hr
      have HC := Lib.hid hc4
      have hsz := hg.size
      clear hg ho hr hnn hc4
      go_wp2_with fail
      refine (pick_c br _ 20 _ HR.out (by omega) (by omega) (by omega)).mono ?_
      rintro e w2 ⟨m, m0, m1, rfl, hg2, hr2⟩
      have HO2 : Hid (OwnC w2 w.heap.size _ cs) := HO.out.kept hg2 (.inr (fun e => by have := Option.some.inj (show some g = some br from e); omega))
      have HG2 := Lib.hid (grown_trans HG.out hg2)
      have HR2 := Lib.hid hr2
      have hs2 := HG2.out.size
      clear hg2 hr2
      by_cases h0 : m = 0
      · subst h0
        go_wp2_with fail
        refine (l91Cached_c br _ _ HR2.out (by omega)).mono ?_
        rintro e w3 ⟨x, rfl, hg3, hr3⟩
        have HO3 : Hid (OwnC w3 w.heap.size _ cs) := HO2.out.kept hg3 (.inr (fun e => by have := Option.some.inj (show some g = some br from e); omega))
        have HG3 := Lib.hid (grown_trans HG2.out hg3)
        have HR3 := Lib.hid hr3
        have hs3 := HG3.out.size
        clear hg3 hr3
        go_wp2_with (at_builtin; refine wpList_appC rfl _ _ rfl w.heap.size _ cs rfl ((HO3.out).gnone (World.grownBy_alloc _ _ _)) (w3.heap.size + 1) w3.heap.size 0 1 1 [x] rfl rfl (box_caches _ _ _) ?d1 ?d2 ?_)
        case d1 => have := HC.out; simp; omega
        case d2 => simp; omega
        intro vz wz ho hg
        have HF : Hid (OwnC wz w.heap.size vz (cs ++ [x]) ∧ (cs ++ [x]).length ≤ 8 ∧ w.grownBy wz (some br) ∧ Rdr wz br (q + 100)) := by
          refine ⟨ho, by have := HC.out; simp; omega, ?_, ?_⟩
          · have h9 := grown_alloc HG3.out (.cells #[.int .i64 x.e, .int .i64 x.p, .int .i64 x.f, .bool x.b] 30)
            exact ⟨hg.os.trans h9.os, hg.tape.trans h9.tape, hg.output.trans h9.output, Nat.le_trans h9.size hg.size, fun j hj hne => (hg.block j (by have := h9.size; omega) (fun e => by have := Option.some.inj (show some j = some g from e); omega)).trans (h9.block j hj hne)⟩
          · exact ((HR3.out.alloc (.cells #[.int .i64 x.e, .int .i64 x.p, .int .i64 x.f, .bool x.b] 30)).of_blocks fun j hj => hg.block j (by have := (HR3.out.alloc (.cells #[.int .i64 x.e, .int .i64 x.p, .int .i64 x.f, .bool x.b] 30)).lt; omega) (fun e => by have := Option.some.inj (show some j = some g from e); omega)).mono (by omega)
        clear ho hg
        go_wp2_with fail
        go_ret
        exact ⟨_, _, rfl, HF.out.1, HF.out.2.1, HF.out.2.2.1, HF.out.2.2.2⟩
      have h0' : (m == 0) = false := by simpa using h0
      by_cases h1 : m = 1
      · subst h1
        obtain ⟨_, _, ev, _, _, hmem⟩ := HO2.out.caches (fun g e => (HO2.out.lt g e).2)
        simp only [Value.slice.injEq, true_and] at ev
        obtain ⟨rfl, rfl⟩ := ev
        have HM := Lib.hid hmem
        clear hmem
        go_wp2_with (at_builtin; refine wpList_appC rfl _ _ rfl w.heap.size _ cs rfl HO2.out w2.heap.size g 0 cs.length _ cs rfl rfl HM.out ?d1 ?d2 ?_)
        case d1 => have := HC.out; omega
        case d2 => omega
        intro vz wz ho hg
        have HF : Hid (OwnC wz w.heap.size vz (cs ++ cs) ∧ (cs ++ cs).length ≤ 8 ∧ w.grownBy wz (some br) ∧ Rdr wz br (q + 100)) := by
          refine ⟨ho, by have := HC.out; simp; omega, ?_, ?_⟩
          · have h9 := HG2.out
            exact ⟨hg.os.trans h9.os, hg.tape.trans h9.tape, hg.output.trans h9.output, Nat.le_trans h9.size hg.size, fun j hj hne => (hg.block j (by have := h9.size; omega) (fun e => by have := Option.some.inj (show some j = some g from e); omega)).trans (h9.block j hj hne)⟩
          · exact (HR2.out.of_blocks fun j hj => hg.block j (by have := HR2.out.lt; omega) (fun e => by have := Option.some.inj (show some j = some g from e); omega)).mono (by omega)
        clear ho hg
        go_wp2_with fail
        go_ret
        exact ⟨_, _, rfl, HF.out.1, HF.out.2.1, HF.out.2.2.1, HF.out.2.2.2⟩
      have h1' : (m == 1) = false := by simpa using h1
      go_wp2_with fail
      go_ret
      exact ⟨_, cs, rfl, HO2.out, by have := HC.out; omega, HG2.out, HR2.out.mono (by omega)⟩
/-- A cache drawn: in memory of the call's own; nothing that was there has turned. -/
def CacheDrawn (w w' : World) (v : Value) (cs : List CachedV) : Prop := OwnC w' w.heap.size v cs ∧ cs.length ≤ 8 ∧ Below w.heap.size w w'
theorem CacheDrawn.of {w w1 w2 w3 : World} {v : Value} {cs : List CachedV} (h1 : w.grownBy w1 none) (hb : w.heap.size < w1.heap.size) (h2 : w1.grownBy w2 (some w.heap.size)) (ho : OwnC w2 w1.heap.size v cs) (hl : cs.length ≤ 8) (h3 : w2.grownBy w3 (some w.heap.size)) : CacheDrawn w w3 v cs :=
  ⟨(ho.kept h3 (.inr (fun e => by have := (ho.lt _ e).1; omega))).mono (by omega), hl, drawn_below h1 (grown_trans h2 h3)⟩
theorem toDrewN {w w' : World} {row : Option Nat} (h : w.grownBy w' row) (n : Nat) : w.grownBy (w'.drewN n) row := ⟨h.os, h.tape, h.output, h.size, h.block⟩
set_option maxHeartbeats 1000000 in
theorem DrawCacheValid_c (a : Option Addr) (len cap : Nat) (w : World) (hB : Bytes w w.heap.size a len) (hc : len ≤ cap) (hm : len ≤ maxLen) :
    Calls Try.prog 10 #[.slice a len cap] w fun e w' => ∃ (v : Value) (cs : List CachedV), e = .returned (v) ∧ CacheDrawn w w' v cs := by
  have HB := Lib.hid hB
  clear hB
  go_enter Try.func10, Try.ntmps10
  go_wp2_with fail
  refine (l6Open_c a len cap w HB.out hc hm).mono ?_
  rintro e w1 ⟨rfl, hg1, hr1⟩
  have hlt : w.heap.size < w1.heap.size := hr1.lt
  have HG1 := Lib.hid hg1
  have HR1 := Lib.hid hr1
  clear hg1 hr1
  go_wp2_with fail
  refine (l91Cache_c w.heap.size 0 _ HR1.out (by omega)).mono ?_
  rintro e w2 ⟨v, cs, rfl, ho, hl, hg2, hr2⟩
  have HF : Hid (∀ w3, w2.grownBy w3 (some w.heap.size) → CacheDrawn w w3 v cs) := fun w3 h3 => CacheDrawn.of HG1.out hlt hg2 ho hl h3
  have HO := Lib.hid ho
  have HL := Lib.hid hl
  have HR2 := Lib.hid hr2
  clear ho hl hg2 hr2
  go_wp2
  go_ret
  exact ⟨_, cs, rfl, HF.out _ (grown_refl _ _)⟩
set_option maxHeartbeats 1000000 in
theorem DrawCacheDrop_c (a : Option Addr) (len cap : Nat) (w : World) (hB : Bytes w w.heap.size a len) (hc : len ≤ cap) (hm : len ≤ maxLen) :
    Calls Try.prog 17 #[.slice a len cap] w fun e w' => ∃ (v : Value) (cs : List CachedV) (p : Int), e = .returned (.tuple #[v, .int .i64 p]) ∧ CacheDrawn w w' v cs := by
  have HB := Lib.hid hB
  clear hB
  go_enter Try.func17, Try.ntmps17
  go_wp2_with fail
  refine (l6Open_c a len cap w HB.out hc hm).mono ?_
  rintro e w1 ⟨rfl, hg1, hr1⟩
  have hlt : w.heap.size < w1.heap.size := hr1.lt
  have HG1 := Lib.hid hg1
  have HR1 := Lib.hid hr1
  clear hg1 hr1
  go_wp2_with fail
  refine (l91Cache_c w.heap.size 0 _ HR1.out (by omega)).mono ?_
  rintro e w2 ⟨v, cs, rfl, ho, hl, hg2, hr2⟩
  have HF : Hid (∀ w3, w2.grownBy w3 (some w.heap.size) → CacheDrawn w w3 v cs) := fun w3 h3 => CacheDrawn.of HG1.out hlt hg2 ho hl h3
  have HO := Lib.hid ho
  have HL := Lib.hid hl
  have HR2 := Lib.hid hr2
  clear ho hl hg2 hr2
  go_wp2_with fail
  refine (pick_c w.heap.size _ 5 _ HR2.out (by omega) (by omega) (by omega)).mono ?_
  rintro e w3 ⟨m, m0, m1, rfl, hg3, hr3⟩
  have HG3 := Lib.hid hg3
  clear hg3 hr3
  go_wp2
  go_ret2
  exact ⟨_, cs, _, rfl, HF.out _ HG3.out⟩
set_option maxHeartbeats 1000000 in
theorem DrawCacheFind_c (a : Option Addr) (len cap : Nat) (w : World) (hB : Bytes w w.heap.size a len) (hc : len ≤ cap) (hm : len ≤ maxLen) :
    Calls Try.prog 13 #[.slice a len cap] w fun e w' => ∃ (v : Value) (cs : List CachedV) (p q : Int), e = .returned (.tuple #[v, .int .i64 p, .int .i64 q]) ∧ CacheDrawn w w' v cs := by
  have HB := Lib.hid hB
  clear hB
  go_enter Try.func13, Try.ntmps13
  go_wp2_with fail
  refine (l6Open_c a len cap w HB.out hc hm).mono ?_
  rintro e w1 ⟨rfl, hg1, hr1⟩
  have hlt : w.heap.size < w1.heap.size := hr1.lt
  have HG1 := Lib.hid hg1
  have HR1 := Lib.hid hr1
  clear hg1 hr1
  go_wp2_with fail
  refine (l91Cache_c w.heap.size 0 _ HR1.out (by omega)).mono ?_
  rintro e w2 ⟨v, cs, rfl, ho, hl, hg2, hr2⟩
  have HF : Hid (∀ w3, w2.grownBy w3 (some w.heap.size) → CacheDrawn w w3 v cs) := fun w3 h3 => CacheDrawn.of HG1.out hlt hg2 ho hl h3
  have HO := Lib.hid ho
  have HL := Lib.hid hl
  have HR2 := Lib.hid hr2
  clear ho hl hg2 hr2
  by_cases hn0 : cs.length = 0
  · have hcs : cs = [] := List.length_eq_zero_iff.1 hn0
    subst hcs
    obtain ⟨a2, c2, rfl, _, _, _⟩ := HO.out.caches (fun g e => (HO.out.lt g e).2)
    simp only [List.length_nil] at *
    go_wp2_with fail
    refine (pick_c w.heap.size _ 4 _ HR2.out (by omega) (by omega) (by omega)).mono ?_
    rintro e w3 ⟨m, m0, m1, rfl, hg3, hr3⟩
    have HG3 := Lib.hid hg3
    have HR3 := Lib.hid hr3
    clear hg3 hr3
    go_wp2_with fail
    refine (pick_c w.heap.size _ 5 _ HR3.out (by omega) (by omega) (by omega)).mono ?_
    rintro e w4 ⟨m', m0', m1', rfl, hg4, hr4⟩
    have HG4 := Lib.hid (grown_trans HG3.out hg4)
    clear hg4 hr4
    go_wp2
    go_ret3
    exact ⟨_, [], _, _, rfl, HF.out _ HG4.out⟩
  · obtain ⟨a2, c2, rfl, _, _, hmem⟩ := HO.out.caches (fun g e => (HO.out.lt g e).2)
    have hpos : (0 : Int) < cs.length := by omega
    have h8 : (cs.length : Int) ≤ 8 := by have := HL.out; omega
    have HM := Lib.hid hmem
    clear hmem
    go_wp2_with fail
    refine (pick_c w.heap.size _ 3 _ HR2.out (by omega) (by omega) (by omega)).mono ?_
    rintro e w3 ⟨m, m0, m1, rfl, hg3, hr3⟩
    have HG3 := Lib.hid hg3
    have HR3 := Lib.hid hr3
    have HO3 : Hid (OwnC w3 w1.heap.size _ cs) := HO.out.kept hg3 (.inr (fun e => by have := (HO.out.lt _ e).1; omega))
    clear hg3 hr3
    by_cases hm0 : 0 < m
    · go_wp2_with fail
      refine (pick_c w.heap.size _ (cs.length : Int) _ HR3.out (by omega) (by omega) (by omega)).mono ?_
      rintro e w4 ⟨k, k0, k1, rfl, hg4, hr4⟩
      have HG4 := Lib.hid (grown_trans HG3.out hg4)
      have HO4 : Hid (OwnC w4 w1.heap.size _ cs) := HO3.out.kept hg4 (.inr (fun e => by have := (HO3.out.lt _ e).1; omega))
      obtain ⟨_, _, ev, _, _, hmem⟩ := HO4.out.caches (fun g e => (HO4.out.lt g e).2)
      simp only [Value.slice.injEq, true_and] at ev
      obtain ⟨rfl, rfl⟩ := ev
      obtain ⟨b, off, rfl, hb, c0, c1, c2', c3⟩ := hmem.at_ (i := k.toNat) (by omega)
      clear hg4 hr4 hmem
      generalize cs.getD k.toNat c0V = c at *
      have HX : Hid (∀ o : Obj, w4.grownBy (w4.alloc o) (some w.heap.size)) := fun o => World.grownBy_alloc _ _ _
      go_wp2_with fail
      go_quiet (fail)
      go_wp2
      go_ret3
      exact ⟨_, cs, _, _, rfl, HF.out _ (grown_trans HG4.out (toDrewN (HX.out _) _))⟩
    · have hm0' : ¬ 0 < m := hm0
      go_wp2_with fail
      refine (pick_c w.heap.size _ 4 _ HR3.out (by omega) (by omega) (by omega)).mono ?_
      rintro e w4 ⟨k, k0, k1, rfl, hg4, hr4⟩
      have HG4 := Lib.hid (grown_trans HG3.out hg4)
      have HR4 := Lib.hid hr4
      clear hg4 hr4
      go_wp2_with fail
      refine (pick_c w.heap.size _ 5 _ HR4.out (by omega) (by omega) (by omega)).mono ?_
      rintro e w5 ⟨m', m0', m1', rfl, hg5, hr5⟩
      have HG5 := Lib.hid (grown_trans HG4.out hg5)
      clear hg5 hr5
      go_wp2
      go_ret3
      exact ⟨_, cs, _, _, rfl, HF.out _ HG5.out⟩
set_option maxHeartbeats 1000000 in
theorem DrawCachePut_c (a : Option Addr) (len cap : Nat) (w : World) (hB : Bytes w w.heap.size a len) (hc : len ≤ cap) (hm : len ≤ maxLen) :
    Calls Try.prog 20 #[.slice a len cap] w fun e w' => ∃ (v : Value) (cs : List CachedV) (x : CachedV), e = .returned (.tuple #[v, .agg #[.int .i64 x.e, .int .i64 x.p, .int .i64 x.f, .bool x.b]]) ∧ CacheDrawn w w' v cs := by
  have HB := Lib.hid hB
  clear hB
  go_enter Try.func20, Try.ntmps20
  go_wp2_with fail
  have hb0 : BoxAt (w.alloc (.cells #[.int .i64 0, .int .i64 0, .int .i64 0, .bool false] 30)) w.heap.size c0V := BoxAt.new w c0V
  have hg0 : w.grownBy (w.alloc (.cells #[.int .i64 0, .int .i64 0, .int .i64 0, .bool false] 30)) none := World.grownBy_alloc _ _ _
  have hz0 : (w.alloc (.cells #[.int .i64 0, .int .i64 0, .int .i64 0, .bool false] 30)).heap.size = w.heap.size + 1 := by simp
  generalize World.alloc w _ = w0 at *
  have HZ0 := Lib.hid hz0
  have HG0 := Lib.hid hg0
  have HB0 := Lib.hid hb0
  have HBY : Hid (Bytes w0 w0.heap.size a len) := by
    rcases HB.out with h0 | ⟨b, off, ha, hlt, hv⟩
    · exact .inl h0
    · refine .inr ⟨b, off, ha, by have := HZ0.out; omega, fun i hi => ?_⟩
      obtain ⟨v, hcell, hv0⟩ := hv i hi
      exact ⟨v, HG0.out.cell hcell (by simp), hv0⟩
  clear hz0 hg0 hb0
  refine (l6Open_c a len cap w0 HBY.out hc hm).mono ?_
  rintro e w1 ⟨rfl, hg1, hr1⟩
  have hlt : w0.heap.size < w1.heap.size := hr1.lt
  have HG1 := Lib.hid hg1
  have HR1 := Lib.hid hr1
  have HB1 := Lib.hid (HB0.out.kept hg1 (by simp))
  clear hg1 hr1
  go_wp2_with fail
  refine (l91Cache_c w0.heap.size 0 _ HR1.out (by omega)).mono ?_
  rintro e w2 ⟨v, cs, rfl, ho, hl, hg2, hr2⟩
  have HO := Lib.hid ho
  have HL := Lib.hid hl
  have HG2 := Lib.hid hg2
  have HR2 := Lib.hid hr2
  have HB2 := Lib.hid (HB1.out.kept hg2 (fun e => by have := Option.some.inj e; have := HZ0.out; omega))
  clear ho hl hg2 hr2
  go_wp2_with fail
  refine (l91Cached_c w0.heap.size _ _ HR2.out (by omega)).mono ?_
  rintro e w3 ⟨x, rfl, hg3, hr3⟩
  have HB3 := Lib.hid (HB2.out.kept hg3 (fun e => by have := Option.some.inj e; have := HZ0.out; omega))
  have HO3 : Hid (OwnC w3 w1.heap.size v cs) := HO.out.kept hg3 (.inr (fun e => by have := (HO.out.lt _ e).1; omega))
  have HG3 : Hid (w.grownBy w3 (some w0.heap.size)) := grown_trans (grown_none_r HG0.out) (grown_trans (grown_none_r HG1.out) (grown_trans HG2.out hg3))
  clear hg3 hr3
  obtain ⟨⟨a0, a1, a2, a3⟩, ⟨f0, f1, f2, f3⟩⟩ := HB3.out.cells
  have HF : Hid (CacheDrawn w ((((w3.setCell ⟨w.heap.size, 0, none⟩ (.int .i64 x.e)).setCell ⟨w.heap.size, 1, none⟩ (.int .i64 x.p)).setCell ⟨w.heap.size, 2, none⟩ (.int .i64 x.f)).setCell ⟨w.heap.size, 3, none⟩ (.bool x.b)) v cs) := by
    have hs : ∀ (W : World) (p : Addr) (u : Value), p.block = w.heap.size → OwnC W w1.heap.size v cs → OwnC (W.setCell p u) w1.heap.size v cs := by
      intro W p u hp h
      have hg : W.grownBy (W.setCell p u) (some p.block) := ⟨rfl, rfl, rfl, by simp [World.setCell], fun j _ hne => Below.heap_setCell W p u j (fun e => hne (by rw [e]))⟩
      exact h.kept hg (.inr (fun e => by have := (h.lt _ e).1; have := HZ0.out; omega))
    refine ⟨(hs _ _ _ rfl (hs _ _ _ rfl (hs _ _ _ rfl (hs _ _ _ rfl HO3.out)))).mono (by have := HZ0.out; omega), HL.out, ?_⟩
    have h9 : w.grownBy ((((w3.setCell ⟨w.heap.size, 0, none⟩ (.int .i64 x.e)).setCell ⟨w.heap.size, 1, none⟩ (.int .i64 x.p)).setCell ⟨w.heap.size, 2, none⟩ (.int .i64 x.f)).setCell ⟨w.heap.size, 3, none⟩ (.bool x.b)) (some w0.heap.size) :=
      grown_setNew (grown_setNew (grown_setNew (grown_setNew HG3.out (Nat.le_refl _) _) (Nat.le_refl _) _) (Nat.le_refl _) _) (Nat.le_refl _) _
    exact ⟨h9.os, h9.tape, h9.output, h9.size, fun k hk => h9.block k hk (fun e => by have := Option.some.inj e; have := HZ0.out; omega)⟩
  obtain ⟨⟨d0, d1, d2, d3⟩, -⟩ := ((((HB3.out.set0 x.e).set1 x.p).set2 x.f).set3 x.b).cells
  have HD0 := Lib.hid d0
  have HD1 := Lib.hid d1
  have HD2 := Lib.hid d2
  have HD3 := Lib.hid d3
  clear d0 d1 d2 d3
  go_wp2_with fail
  generalize ((((w3.setCell ⟨w.heap.size, 0, none⟩ (.int .i64 x.e)).setCell ⟨w.heap.size, 1, none⟩ (.int .i64 x.p)).setCell ⟨w.heap.size, 2, none⟩ (.int .i64 x.f)).setCell ⟨w.heap.size, 3, none⟩ (.bool x.b)) = wz at *
  have d0 := HD0.out
  have d1 := HD1.out
  have d2 := HD2.out
  have d3 := HD3.out
  refine bodyPost_ret (v := .tuple #[v, .agg #[.int .i64 x.e, .int .i64 x.p, .int .i64 x.f, .bool x.b]]) (by simp [results, Try.results20, go_sem, d0, d1, d2, d3]) rfl ?_
  exact ⟨v, cs, x, rfl, HF.out⟩
end Go.Proofs.Ythgdhikgknmioaa
