/-
  The walks of the laws on drawn caches: each returns true and writes nothing that was there. No conditions.
-/
import Derived.Test.YthgdhikgknmioaaCacheLw
namespace Go.Proofs.Ythgdhikgknmioaa
open Go.RowKit
attribute [local irreducible] Go.wpQuiet

theorem cpL_len {cs : List CachedV} (x : CachedV) : (cpL cs x).length ≤ 1048576 := by
  unfold cpL
  split
  · rename_i h1
    exact Nat.le_trans ((ccB_iff _).1 (putC_ok h1)).1 (by omega)
  · simp
theorem cdL_len {cs : List CachedV} (e : Int) (h : cs.length ≤ 1048576) : (cdL cs e).length ≤ 1048576 := by
  unfold cdL dropC
  split
  · exact Nat.le_trans (List.length_filter_le _ _) h
  · simp
/-- What was put, put once more: the same list. -/
theorem cp_again {cs : List CachedV} {x : CachedV} (h : cpB cs x = true) : cpB (cpL cs x) x = true ∧ cpL (cpL cs x) x = cpL cs x := by
  have h1 := putC_ok h
  have e : cpL cs x = putC cs x := by unfold cpL; rw [h]; rfl
  have hx : okC x = true := by unfold cpB at h; rw [Bool.and_eq_true] at h; exact h.2
  have h2 : cpB (putC cs x) x = true := by unfold cpB; rw [h1, hx]; rfl
  rw [e]
  refine ⟨h2, ?_⟩
  unfold cpL
  rw [h2]
  exact putC_twice h
theorem putC_k {cs cs' : List CachedV} {x : CachedV} {w w' : World} {e : Ending} {b : Bool} (h : PutC cs x w e w') (hb : cpB cs x = b) (hl : cpL cs x = cs') : ∃ v, e = .returned (.tuple #[v, .bool b]) ∧ OwnC w' w.heap.size v cs' ∧ w.grownBy w' none := by
  subst hb hl
  exact h
theorem cfound_k {cs : List CachedV} {p q : Int} {w w' : World} {e : Ending} {b : Bool} {y : CachedV} (h : CFound cs p q w e w') (hb : cfB cs p q = b) (hy : cfV cs p q = y) : e = .returned (.tuple #[.agg #[.int .i64 y.e, .int .i64 y.p, .int .i64 y.f, .bool y.b], .bool b]) ∧ w.grownBy w' none := by
  subst hb hy
  exact h
theorem cfB_drop (cs : List CachedV) (e p : Int) : cfB (cdL cs e) e p = false ∧ cfV (cdL cs e) e p = c0V := by
  refine cf_bad (.inr ?_)
  unfold cdL
  split
  · rw [dropC_find]; omega
  · rw [fnd_none (fun j hj => by simp at hj)]; omega
set_option maxHeartbeats 4000000 in
theorem FnCacheTwice_w (a : Option Addr) (len cap : Nat) (w : World) (hB : Bytes w w.heap.size a len) (hc : len ≤ cap) (hm : len ≤ maxLen) :
    Calls Try.prog 8 #[.slice a len cap] w fun e w' => e = .returned (.bool true) ∧ Below w.heap.size w w' := by
  have HBY := Lib.hid hB
  clear hB
  by_cases hlong : 1048576 < len
  · have hlong' : (1048576 : Int) < (len : Int) := by omega
    unfold maxLen at hm
    go_enter Try.func8, Try.ntmps8
    go_wp2_with fail
    go_ret
    exact ⟨rfl, Below.refl _ _⟩
  · have hlong' : ¬ (1048576 : Int) < (len : Int) := by omega
    go_enter Try.func8, Try.ntmps8
    go_wp2_with fail
    refine (DrawCachePut_c a len cap w HBY.out hc hm).mono ?_
    rintro e w1 ⟨v1, cs, x, rfl, ho1, hl1, hb1⟩
    obtain ⟨x1, c1, rfl, hk1, _, hm1⟩ := ho1.caches (fun g e => (ho1.lt g e).2)
    have HHC : Hid (∀ g, Value.ownBlock (.slice x1 cs.length c1) = some g → g < w1.heap.size) := fun g e => (ho1.lt g e).2
    have HKC := Lib.hid hk1
    have HL8 := Lib.hid hl1
    have HS : Hid (cs.length ≤ 1048576) := Nat.le_trans hl1 (by omega)
    have HSL : Hid (∀ x : CachedV, (cpL cs x).length ≤ 1048576) := fun x => cpL_len x
    have HB1 := Lib.hid hb1
    have HZ1 := Lib.hid hb1.size
    have HOC1 := Lib.hid ho1
    have HCC1 := Lib.hid hm1
    clear ho1 hl1 hb1 hk1 hm1
    go_wp2_with fail
    generalize hw2 : World.alloc _ _ = w2
    have hg2 : w1.grownBy w2 none := by rw [← hw2]; exact World.grownBy_alloc _ _ _
    have hb2 : Caches w2 (w1.heap.size + 1) (some ⟨w1.heap.size, 0, none⟩) [x] := by rw [← hw2]; exact box_caches _ _ _
    have hz2 : w1.heap.size + 1 ≤ w2.heap.size := by rw [← hw2]; simp
    have HB2 := Lib.hid (below_none HB1.out (Nat.le_refl _) hg2)
    have HZ2 := Lib.hid hg2.size
    have HOC2 := Lib.hid (HOC1.out.gnone hg2)
    have HCC2 := Lib.hid (HCC1.out.gnone hg2 (by have := HZ1.out; omega))
    have HZ2 := Lib.hid hz2
    have HCb2 := Lib.hid hb2
    clear hg2 hb2 hw2 hz2
    refine (implCachePut_c w1.heap.size x1 c1 cs x _ HCC2.out (by have := HZ1.out; have := HZ2.out; omega) HS.out HKC.out).mono ?_
    rintro e3 w3 ⟨v3, rfl, ho3, hg3⟩
    have hh3 : ∀ g, v3.ownBlock = some g → g < w3.heap.size := fun g e => (ho3.lt g e).2
    obtain ⟨x3, c3, rfl, hk3, _, hm3⟩ := ho3.caches hh3
    have HHG := Lib.hid hh3
    have HKG := Lib.hid hk3
    have HB3 := Lib.hid (below_none HB2.out (Nat.le_refl _) hg3)
    have HZ3 := Lib.hid hg3.size
    have HOC3 := Lib.hid (HOC2.out.gnone hg3)
    have HCC3 := Lib.hid (HCC2.out.gnone hg3 (by have := HZ1.out; have := HZ2.out; omega))
    have HCb3 := Lib.hid (HCb2.out.gnone hg3 (by have := HZ1.out; have := HZ2.out; omega))
    have HOG3 := Lib.hid ho3
    have HCG3 := Lib.hid hm3
    clear ho3 hm3 hg3 hh3 hk3
    obtain ⟨bb0, bb1, bb2, bb3⟩ := HCb3.out.box
    have bbl := World.block_lt_of_cell? _ _ bb0
    go_wp2_with fail
    refine (specCachePut_c w1.heap.size x1 c1 cs x _ HCC3.out (by have := HZ1.out; have := HZ2.out; have := HZ3.out; omega) HS.out).mono ?_
    rintro e4 w4 ⟨v4, rfl, ho4, hg4⟩
    have hh4 : ∀ g, v4.ownBlock = some g → g < w4.heap.size := fun g e => (ho4.lt g e).2
    obtain ⟨x4, c4, rfl, hk4, _, hm4⟩ := ho4.caches hh4
    have HHW := Lib.hid hh4
    have HKW := Lib.hid hk4
    have HB4 := Lib.hid (below_none HB3.out (Nat.le_refl _) hg4)
    have HZ4 := Lib.hid hg4.size
    have HOC4 := Lib.hid (HOC3.out.gnone hg4)
    have HCC4 := Lib.hid (HCC3.out.gnone hg4 (by have := HZ1.out; have := HZ2.out; have := HZ3.out; omega))
    have HOG4 := Lib.hid (HOG3.out.gnone hg4)
    have HCG4 := Lib.hid (HCG3.out.gnone hg4 (by have := HZ1.out; have := HZ2.out; have := HZ3.out; omega))
    have HCb4 := Lib.hid (HCb3.out.gnone hg4 (by have := HZ1.out; have := HZ2.out; have := HZ3.out; omega))
    have HOW4 := Lib.hid ho4
    have HCW4 := Lib.hid hm4
    clear ho4 hm4 hg4 hh4 hk4
    clear bb0 bb1 bb2 bb3 bbl
    rcases hcp : cpB cs x
    · go_wp2_with fail
      refine (sameCache_k w3.heap.size w4.heap.size x3 x4 c3 c4 (cpL cs x) (cpL cs x) _ HCG4.out HCW4.out (by have := HZ1.out; have := HZ2.out; have := HZ3.out; have := HZ4.out; omega) (by have := HZ1.out; have := HZ2.out; have := HZ3.out; have := HZ4.out; omega) (HSL.out x) (HSL.out x) rfl).mono ?_
      rintro e5 w5 ⟨rfl, hg5⟩
      have HB5 := Lib.hid (below_none HB4.out (Nat.le_refl _) hg5)
      have HZ5 := Lib.hid hg5.size
      have HOC5 := Lib.hid (HOC4.out.gnone hg5)
      have HCC5 := Lib.hid (HCC4.out.gnone hg5 (by have := HZ1.out; have := HZ2.out; have := HZ3.out; have := HZ4.out; omega))
      have HOG5 := Lib.hid (HOG4.out.gnone hg5)
      have HCG5 := Lib.hid (HCG4.out.gnone hg5 (by have := HZ1.out; have := HZ2.out; have := HZ3.out; have := HZ4.out; omega))
      have HOW5 := Lib.hid (HOW4.out.gnone hg5)
      have HCW5 := Lib.hid (HCW4.out.gnone hg5 (by have := HZ1.out; have := HZ2.out; have := HZ3.out; have := HZ4.out; omega))
      have HCb5 := Lib.hid (HCb4.out.gnone hg5 (by have := HZ1.out; have := HZ2.out; have := HZ3.out; have := HZ4.out; omega))
      clear hg5
      go_wp2_with fail
      refine (sameCache_k w3.heap.size w4.heap.size x3 x4 c3 c4 (cpL cs x) (cpL cs x) _ HCG5.out HCW5.out (by have := HZ1.out; have := HZ2.out; have := HZ3.out; have := HZ4.out; have := HZ5.out; omega) (by have := HZ1.out; have := HZ2.out; have := HZ3.out; have := HZ4.out; have := HZ5.out; omega) (HSL.out x) (HSL.out x) rfl).mono ?_
      rintro e6 w6 ⟨rfl, hg6⟩
      have HB6 := Lib.hid (below_none HB5.out (Nat.le_refl _) hg6)
      have HZ6 := Lib.hid hg6.size
      have HOC6 := Lib.hid (HOC5.out.gnone hg6)
      have HCC6 := Lib.hid (HCC5.out.gnone hg6 (by have := HZ1.out; have := HZ2.out; have := HZ3.out; have := HZ4.out; have := HZ5.out; omega))
      have HOG6 := Lib.hid (HOG5.out.gnone hg6)
      have HCG6 := Lib.hid (HCG5.out.gnone hg6 (by have := HZ1.out; have := HZ2.out; have := HZ3.out; have := HZ4.out; have := HZ5.out; omega))
      have HOW6 := Lib.hid (HOW5.out.gnone hg6)
      have HCW6 := Lib.hid (HCW5.out.gnone hg6 (by have := HZ1.out; have := HZ2.out; have := HZ3.out; have := HZ4.out; have := HZ5.out; omega))
      have HCb6 := Lib.hid (HCb5.out.gnone hg6 (by have := HZ1.out; have := HZ2.out; have := HZ3.out; have := HZ4.out; have := HZ5.out; omega))
      clear hg6
      go_wp2_with fail
      go_ret
      exact ⟨rfl, HB6.out⟩
    · have HT := Lib.hid (cp_again hcp)
      go_wp2_with fail
      refine (sameCache_k w3.heap.size w4.heap.size x3 x4 c3 c4 (cpL cs x) (cpL cs x) _ HCG4.out HCW4.out (by have := HZ1.out; have := HZ2.out; have := HZ3.out; have := HZ4.out; omega) (by have := HZ1.out; have := HZ2.out; have := HZ3.out; have := HZ4.out; omega) (HSL.out x) (HSL.out x) rfl).mono ?_
      rintro e5 w5 ⟨rfl, hg5⟩
      have HB5 := Lib.hid (below_none HB4.out (Nat.le_refl _) hg5)
      have HZ5 := Lib.hid hg5.size
      have HOC5 := Lib.hid (HOC4.out.gnone hg5)
      have HCC5 := Lib.hid (HCC4.out.gnone hg5 (by have := HZ1.out; have := HZ2.out; have := HZ3.out; have := HZ4.out; omega))
      have HOG5 := Lib.hid (HOG4.out.gnone hg5)
      have HCG5 := Lib.hid (HCG4.out.gnone hg5 (by have := HZ1.out; have := HZ2.out; have := HZ3.out; have := HZ4.out; omega))
      have HOW5 := Lib.hid (HOW4.out.gnone hg5)
      have HCW5 := Lib.hid (HCW4.out.gnone hg5 (by have := HZ1.out; have := HZ2.out; have := HZ3.out; have := HZ4.out; omega))
      have HCb5 := Lib.hid (HCb4.out.gnone hg5 (by have := HZ1.out; have := HZ2.out; have := HZ3.out; have := HZ4.out; omega))
      clear hg5
      obtain ⟨bb0, bb1, bb2, bb3⟩ := HCb5.out.box
      have bbl := World.block_lt_of_cell? _ _ bb0
      go_wp2_with fail
      refine (implCachePut_c w3.heap.size x3 c3 (cpL cs x) x _ HCG5.out (by have := HZ1.out; have := HZ2.out; have := HZ3.out; have := HZ4.out; have := HZ5.out; omega) (HSL.out x) HKG.out).mono ?_
      rintro e6 w6 hput
      replace hput := putC_k hput HT.out.1 HT.out.2
      revert hput
      rintro ⟨v6, rfl, ho6, hg6⟩
      have hh6 : ∀ g, v6.ownBlock = some g → g < w6.heap.size := fun g e => (ho6.lt g e).2
      obtain ⟨x6, c6, rfl, hk6, _, hm6⟩ := ho6.caches hh6
      have HHY := Lib.hid hh6
      have HKY := Lib.hid hk6
      have HB6 := Lib.hid (below_none HB5.out (Nat.le_refl _) hg6)
      have HZ6 := Lib.hid hg6.size
      have HOC6 := Lib.hid (HOC5.out.gnone hg6)
      have HCC6 := Lib.hid (HCC5.out.gnone hg6 (by have := HZ1.out; have := HZ2.out; have := HZ3.out; have := HZ4.out; have := HZ5.out; omega))
      have HOG6 := Lib.hid (HOG5.out.gnone hg6)
      have HCG6 := Lib.hid (HCG5.out.gnone hg6 (by have := HZ1.out; have := HZ2.out; have := HZ3.out; have := HZ4.out; have := HZ5.out; omega))
      have HOW6 := Lib.hid (HOW5.out.gnone hg6)
      have HCW6 := Lib.hid (HCW5.out.gnone hg6 (by have := HZ1.out; have := HZ2.out; have := HZ3.out; have := HZ4.out; have := HZ5.out; omega))
      have HCb6 := Lib.hid (HCb5.out.gnone hg6 (by have := HZ1.out; have := HZ2.out; have := HZ3.out; have := HZ4.out; have := HZ5.out; omega))
      have HOY6 := Lib.hid ho6
      have HCY6 := Lib.hid hm6
      clear ho6 hm6 hg6 hh6 hk6
      go_wp2_with fail
      refine (sameCache_k w6.heap.size w3.heap.size x6 x3 c6 c3 (cpL cs x) (cpL cs x) _ HCY6.out HCG6.out (by have := HZ1.out; have := HZ2.out; have := HZ3.out; have := HZ4.out; have := HZ5.out; have := HZ6.out; omega) (by have := HZ1.out; have := HZ2.out; have := HZ3.out; have := HZ4.out; have := HZ5.out; have := HZ6.out; omega) (HSL.out x) (HSL.out x) rfl).mono ?_
      rintro e7 w7 ⟨rfl, hg7⟩
      have HB7 := Lib.hid (below_none HB6.out (Nat.le_refl _) hg7)
      have HZ7 := Lib.hid hg7.size
      have HOC7 := Lib.hid (HOC6.out.gnone hg7)
      have HCC7 := Lib.hid (HCC6.out.gnone hg7 (by have := HZ1.out; have := HZ2.out; have := HZ3.out; have := HZ4.out; have := HZ5.out; have := HZ6.out; omega))
      have HOG7 := Lib.hid (HOG6.out.gnone hg7)
      have HCG7 := Lib.hid (HCG6.out.gnone hg7 (by have := HZ1.out; have := HZ2.out; have := HZ3.out; have := HZ4.out; have := HZ5.out; have := HZ6.out; omega))
      have HOW7 := Lib.hid (HOW6.out.gnone hg7)
      have HCW7 := Lib.hid (HCW6.out.gnone hg7 (by have := HZ1.out; have := HZ2.out; have := HZ3.out; have := HZ4.out; have := HZ5.out; have := HZ6.out; omega))
      have HOY7 := Lib.hid (HOY6.out.gnone hg7)
      have HCY7 := Lib.hid (HCY6.out.gnone hg7 (by have := HZ1.out; have := HZ2.out; have := HZ3.out; have := HZ4.out; have := HZ5.out; have := HZ6.out; omega))
      have HCb7 := Lib.hid (HCb6.out.gnone hg7 (by have := HZ1.out; have := HZ2.out; have := HZ3.out; have := HZ4.out; have := HZ5.out; have := HZ6.out; omega))
      clear hg7
      go_wp2_with fail
      go_ret
      exact ⟨rfl, HB7.out⟩
theorem neqC_self (x : CachedV) (w : World) : (binOp .neq 30 (.agg #[.int .i64 x.e, .int .i64 x.p, .int .i64 x.f, .bool x.b]) (.agg #[.int .i64 x.e, .int .i64 x.p, .int .i64 x.f, .bool x.b])).run Try.prog w = .ok (.bool false) w := by rw [neqC_run]; simp
theorem eqC_self (x : CachedV) (w : World) : (binOp .eql 30 (.agg #[.int .i64 x.e, .int .i64 x.p, .int .i64 x.f, .bool x.b]) (.agg #[.int .i64 x.e, .int .i64 x.p, .int .i64 x.f, .bool x.b])).run Try.prog w = .ok (.bool true) w := by rw [eqC_run]; simp
set_option maxHeartbeats 4000000 in
theorem FnCacheFindDrop_w (a : Option Addr) (len cap : Nat) (w : World) (hB : Bytes w w.heap.size a len) (hc : len ≤ cap) (hm : len ≤ maxLen) :
    Calls Try.prog 5 #[.slice a len cap] w fun e w' => e = .returned (.bool true) ∧ Below w.heap.size w w' := by
  have HBY := Lib.hid hB
  clear hB
  by_cases hlong : 1048576 < len
  · have hlong' : (1048576 : Int) < (len : Int) := by omega
    unfold maxLen at hm
    go_enter Try.func5, Try.ntmps5
    go_wp2_with fail
    go_ret
    exact ⟨rfl, Below.refl _ _⟩
  · have hlong' : ¬ (1048576 : Int) < (len : Int) := by omega
    go_enter Try.func5, Try.ntmps5
    go_wp2_with fail
    refine (DrawCacheFind_c a len cap w HBY.out hc hm).mono ?_
    rintro e w1 ⟨v1, cs, p, q, rfl, ho1, hl1, hb1⟩
    obtain ⟨x1, c1, rfl, hk1, _, hm1⟩ := ho1.caches (fun g e => (ho1.lt g e).2)
    have HHC : Hid (∀ g, Value.ownBlock (.slice x1 cs.length c1) = some g → g < w1.heap.size) := fun g e => (ho1.lt g e).2
    have HKC := Lib.hid hk1
    have HL8 := Lib.hid hl1
    have HS : Hid (cs.length ≤ 1048576) := Nat.le_trans hl1 (by omega)
    have HSL : Hid (∀ x : CachedV, (cpL cs x).length ≤ 1048576) := fun x => cpL_len x
    have HB1 := Lib.hid hb1
    have HZ1 := Lib.hid hb1.size
    have HOC1 := Lib.hid ho1
    have HCC1 := Lib.hid hm1
    clear ho1 hl1 hb1 hk1 hm1
    go_wp2_with fail
    refine (implCacheFind_c w1.heap.size x1 c1 (cs) p q _ HCC1.out (by have := HZ1.out; omega) HS.out HKC.out).mono ?_
    rintro e2 w2 ⟨rfl, hg2⟩
    have HB2 := Lib.hid (below_none HB1.out (Nat.le_refl _) hg2)
    have HZ2 := Lib.hid hg2.size
    have HOC2 := Lib.hid (HOC1.out.gnone hg2)
    have HCC2 := Lib.hid (HCC1.out.gnone hg2 (by have := HZ1.out; omega))
    clear hg2
    go_wp2_with fail
    generalize hw3 : World.alloc _ _ = w3
    have hg3 : w2.grownBy w3 none := by rw [← hw3]; exact World.grownBy_alloc _ _ _
    have hb3 : Caches w3 (w2.heap.size + 1) (some ⟨w2.heap.size, 0, none⟩) [cfV cs p q] := by rw [← hw3]; exact box_caches _ _ _
    have hz3 : w2.heap.size + 1 ≤ w3.heap.size := by rw [← hw3]; simp
    have HB3 := Lib.hid (below_none HB2.out (Nat.le_refl _) hg3)
    have HZ3 := Lib.hid hg3.size
    have HOC3 := Lib.hid (HOC2.out.gnone hg3)
    have HCC3 := Lib.hid (HCC2.out.gnone hg3 (by have := HZ1.out; have := HZ2.out; omega))
    have HZ3 := Lib.hid hz3
    have HCf3 := Lib.hid hb3
    clear hg3 hb3 hw3 hz3
    refine (specCacheFind_c w1.heap.size x1 c1 (cs) p q _ HCC3.out (by have := HZ1.out; have := HZ2.out; have := HZ3.out; omega) HS.out).mono ?_
    rintro e4 w4 ⟨rfl, hg4⟩
    have HB4 := Lib.hid (below_none HB3.out (Nat.le_refl _) hg4)
    have HZ4 := Lib.hid hg4.size
    have HOC4 := Lib.hid (HOC3.out.gnone hg4)
    have HCC4 := Lib.hid (HCC3.out.gnone hg4 (by have := HZ1.out; have := HZ2.out; have := HZ3.out; omega))
    have HCf4 := Lib.hid (HCf3.out.gnone hg4 (by have := HZ1.out; have := HZ2.out; have := HZ3.out; omega))
    clear hg4
    obtain ⟨bb0, bb1, bb2, bb3⟩ := HCf4.out.box
    have bbl := World.block_lt_of_cell? _ _ bb0
    have hE1 := neqC_self (cfV cs p q)
    have hE2 := eqC_self (cfV cs p q)
    have hE3 := grdC .neq
    have hE4 := grdC .eql
    rcases hcf : cfB cs p q
    · go_wp2_with fail
      go_ret
      exact ⟨rfl, HB4.out.alloc HB4.out.size _⟩
    · have HCL := Lib.hid (cdL_len (cs := cs) p HS.out)
      have HCD := Lib.hid (cfB_drop cs p q)
      go_wp2_with fail
      clear bb0 bb1 bb2 bb3 bbl hE1 hE2 hE3 hE4
      generalize hw5 : World.alloc _ _ = w5
      have hg5 : w4.grownBy w5 none := by rw [← hw5]; exact World.grownBy_alloc _ _ _
      have hb5 : Caches w5 (w4.heap.size + 1) (some ⟨w4.heap.size, 0, none⟩) [cfV cs p q] := by rw [← hw5]; exact box_caches _ _ _
      have hz5 : w4.heap.size + 1 ≤ w5.heap.size := by rw [← hw5]; simp
      have HB5 := Lib.hid (below_none HB4.out (Nat.le_refl _) hg5)
      have HZ5 := Lib.hid hg5.size
      have HOC5 := Lib.hid (HOC4.out.gnone hg5)
      have HCC5 := Lib.hid (HCC4.out.gnone hg5 (by have := HZ1.out; have := HZ2.out; have := HZ3.out; have := HZ4.out; omega))
      have HCf5 := Lib.hid (HCf4.out.gnone hg5 (by have := HZ1.out; have := HZ2.out; have := HZ3.out; have := HZ4.out; omega))
      have HZ5 := Lib.hid hz5
      have HCh5 := Lib.hid hb5
      clear hg5 hb5 hw5 hz5
      refine (implCacheDrop_c w1.heap.size x1 c1 cs p _ HCC5.out (by have := HZ1.out; have := HZ2.out; have := HZ3.out; have := HZ4.out; have := HZ5.out; omega) HS.out HKC.out).mono ?_
      rintro e6 w6 ⟨v6, rfl, ho6, hg6⟩
      have hh6 : ∀ g, v6.ownBlock = some g → g < w6.heap.size := fun g e => (ho6.lt g e).2
      obtain ⟨x6, c6, rfl, hk6, _, hm6⟩ := ho6.caches hh6
      have HHD := Lib.hid hh6
      have HKD := Lib.hid hk6
      have HB6 := Lib.hid (below_none HB5.out (Nat.le_refl _) hg6)
      have HZ6 := Lib.hid hg6.size
      have HOC6 := Lib.hid (HOC5.out.gnone hg6)
      have HCC6 := Lib.hid (HCC5.out.gnone hg6 (by have := HZ1.out; have := HZ2.out; have := HZ3.out; have := HZ4.out; have := HZ5.out; omega))
      have HCf6 := Lib.hid (HCf5.out.gnone hg6 (by have := HZ1.out; have := HZ2.out; have := HZ3.out; have := HZ4.out; have := HZ5.out; omega))
      have HCh6 := Lib.hid (HCh5.out.gnone hg6 (by have := HZ1.out; have := HZ2.out; have := HZ3.out; have := HZ4.out; have := HZ5.out; omega))
      have HOD6 := Lib.hid ho6
      have HCD6 := Lib.hid hm6
      clear ho6 hm6 hg6 hh6 hk6
      go_wp2_with fail
      refine (implCacheFind_c w6.heap.size x6 c6 (cdL cs p) p q _ HCD6.out (by have := HZ1.out; have := HZ2.out; have := HZ3.out; have := HZ4.out; have := HZ5.out; have := HZ6.out; omega) HCL.out HKD.out).mono ?_
      rintro e7 w7 hfo
      obtain ⟨rfl, hg7⟩ := cfound_k hfo HCD.out.1 HCD.out.2
      clear hfo
      have HB7 := Lib.hid (below_none HB6.out (Nat.le_refl _) hg7)
      have HZ7 := Lib.hid hg7.size
      have HOC7 := Lib.hid (HOC6.out.gnone hg7)
      have HCC7 := Lib.hid (HCC6.out.gnone hg7 (by have := HZ1.out; have := HZ2.out; have := HZ3.out; have := HZ4.out; have := HZ5.out; have := HZ6.out; omega))
      have HOD7 := Lib.hid (HOD6.out.gnone hg7)
      have HCD7 := Lib.hid (HCD6.out.gnone hg7 (by have := HZ1.out; have := HZ2.out; have := HZ3.out; have := HZ4.out; have := HZ5.out; have := HZ6.out; omega))
      have HCf7 := Lib.hid (HCf6.out.gnone hg7 (by have := HZ1.out; have := HZ2.out; have := HZ3.out; have := HZ4.out; have := HZ5.out; have := HZ6.out; omega))
      have HCh7 := Lib.hid (HCh6.out.gnone hg7 (by have := HZ1.out; have := HZ2.out; have := HZ3.out; have := HZ4.out; have := HZ5.out; have := HZ6.out; omega))
      clear hg7
      go_wp2_with fail
      go_ret
      exact ⟨rfl, HB7.out.alloc HB7.out.size _⟩
set_option maxHeartbeats 4000000 in
theorem FnCacheDrop_w (a : Option Addr) (len cap : Nat) (w : World) (hB : Bytes w w.heap.size a len) (hc : len ≤ cap) (hm : len ≤ maxLen) :
    Calls Try.prog 6 #[.slice a len cap] w fun e w' => e = .returned (.bool true) ∧ Below w.heap.size w w' := by
  have HBY := Lib.hid hB
  clear hB
  by_cases hlong : 1048576 < len
  · have hlong' : (1048576 : Int) < (len : Int) := by omega
    unfold maxLen at hm
    go_enter Try.func6, Try.ntmps6
    go_wp2_with fail
    go_ret
    exact ⟨rfl, Below.refl _ _⟩
  · have hlong' : ¬ (1048576 : Int) < (len : Int) := by omega
    go_enter Try.func6, Try.ntmps6
    go_wp2_with fail
    refine (DrawCacheDrop_c a len cap w HBY.out hc hm).mono ?_
    rintro e w1 ⟨v1, cs, e0, rfl, ho1, hl1, hb1⟩
    obtain ⟨x1, c1, rfl, hk1, _, hm1⟩ := ho1.caches (fun g e => (ho1.lt g e).2)
    have HHC : Hid (∀ g, Value.ownBlock (.slice x1 cs.length c1) = some g → g < w1.heap.size) := fun g e => (ho1.lt g e).2
    have HKC := Lib.hid hk1
    have HL8 := Lib.hid hl1
    have HS : Hid (cs.length ≤ 1048576) := Nat.le_trans hl1 (by omega)
    have HSL : Hid (∀ x : CachedV, (cpL cs x).length ≤ 1048576) := fun x => cpL_len x
    have HB1 := Lib.hid hb1
    have HZ1 := Lib.hid hb1.size
    have HOC1 := Lib.hid ho1
    have HCC1 := Lib.hid hm1
    clear ho1 hl1 hb1 hk1 hm1
    go_wp2_with fail
    have HCL := Lib.hid (cdL_len (cs := cs) e0 HS.out)
    refine (implCacheDrop_c w1.heap.size x1 c1 cs e0 _ HCC1.out (by have := HZ1.out; omega) HS.out HKC.out).mono ?_
    rintro e2 w2 ⟨v2, rfl, ho2, hg2⟩
    have hh2 : ∀ g, v2.ownBlock = some g → g < w2.heap.size := fun g e => (ho2.lt g e).2
    obtain ⟨x2, c2, rfl, hk2, _, hm2⟩ := ho2.caches hh2
    have HHG := Lib.hid hh2
    have HKG := Lib.hid hk2
    have HB2 := Lib.hid (below_none HB1.out (Nat.le_refl _) hg2)
    have HZ2 := Lib.hid hg2.size
    have HOC2 := Lib.hid (HOC1.out.gnone hg2)
    have HCC2 := Lib.hid (HCC1.out.gnone hg2 (by have := HZ1.out; omega))
    have HOG2 := Lib.hid ho2
    have HCG2 := Lib.hid hm2
    clear ho2 hm2 hg2 hh2 hk2
    go_wp2_with fail
    refine (specCacheDrop_c w1.heap.size x1 c1 cs e0 _ HCC2.out (by have := HZ1.out; have := HZ2.out; omega) HS.out).mono ?_
    rintro e3 w3 ⟨v3, rfl, ho3, hg3⟩
    have hh3 : ∀ g, v3.ownBlock = some g → g < w3.heap.size := fun g e => (ho3.lt g e).2
    obtain ⟨x3, c3, rfl, hk3, _, hm3⟩ := ho3.caches hh3
    have HHW := Lib.hid hh3
    have HKW := Lib.hid hk3
    have HB3 := Lib.hid (below_none HB2.out (Nat.le_refl _) hg3)
    have HZ3 := Lib.hid hg3.size
    have HOC3 := Lib.hid (HOC2.out.gnone hg3)
    have HCC3 := Lib.hid (HCC2.out.gnone hg3 (by have := HZ1.out; have := HZ2.out; omega))
    have HOG3 := Lib.hid (HOG2.out.gnone hg3)
    have HCG3 := Lib.hid (HCG2.out.gnone hg3 (by have := HZ1.out; have := HZ2.out; omega))
    have HOW3 := Lib.hid ho3
    have HCW3 := Lib.hid hm3
    clear ho3 hm3 hg3 hh3 hk3
    go_wp2_with fail
    refine (sameCache_k w2.heap.size w3.heap.size x2 x3 c2 c3 (cdL cs e0) (cdL cs e0) _ HCG3.out HCW3.out (by have := HZ1.out; have := HZ2.out; have := HZ3.out; omega) (by have := HZ1.out; have := HZ2.out; have := HZ3.out; omega) HCL.out HCL.out rfl).mono ?_
    rintro e4 w4 ⟨rfl, hg4⟩
    have HB4 := Lib.hid (below_none HB3.out (Nat.le_refl _) hg4)
    have HZ4 := Lib.hid hg4.size
    have HOC4 := Lib.hid (HOC3.out.gnone hg4)
    have HCC4 := Lib.hid (HCC3.out.gnone hg4 (by have := HZ1.out; have := HZ2.out; have := HZ3.out; omega))
    have HOG4 := Lib.hid (HOG3.out.gnone hg4)
    have HCG4 := Lib.hid (HCG3.out.gnone hg4 (by have := HZ1.out; have := HZ2.out; have := HZ3.out; omega))
    have HOW4 := Lib.hid (HOW3.out.gnone hg4)
    have HCW4 := Lib.hid (HCW3.out.gnone hg4 (by have := HZ1.out; have := HZ2.out; have := HZ3.out; omega))
    clear hg4
    go_wp2_with fail
    rcases hcc : ccB cs
    · refine (specCacheValid_k w1.heap.size x1 c1 cs _ false HCC4.out (by have := HZ1.out; have := HZ2.out; have := HZ3.out; have := HZ4.out; omega) HS.out hcc).mono ?_
      rintro e5 w5 ⟨rfl, hg5⟩
      have HB5 := Lib.hid (below_none HB4.out (Nat.le_refl _) hg5)
      have HZ5 := Lib.hid hg5.size
      have HOC5 := Lib.hid (HOC4.out.gnone hg5)
      have HCC5 := Lib.hid (HCC4.out.gnone hg5 (by have := HZ1.out; have := HZ2.out; have := HZ3.out; have := HZ4.out; omega))
      have HOG5 := Lib.hid (HOG4.out.gnone hg5)
      have HCG5 := Lib.hid (HCG4.out.gnone hg5 (by have := HZ1.out; have := HZ2.out; have := HZ3.out; have := HZ4.out; omega))
      have HOW5 := Lib.hid (HOW4.out.gnone hg5)
      have HCW5 := Lib.hid (HCW4.out.gnone hg5 (by have := HZ1.out; have := HZ2.out; have := HZ3.out; have := HZ4.out; omega))
      clear hg5
      go_wp2_with fail
      refine (sameCache_k w2.heap.size w3.heap.size x2 x3 c2 c3 (cdL cs e0) (cdL cs e0) _ HCG5.out HCW5.out (by have := HZ1.out; have := HZ2.out; have := HZ3.out; have := HZ4.out; have := HZ5.out; omega) (by have := HZ1.out; have := HZ2.out; have := HZ3.out; have := HZ4.out; have := HZ5.out; omega) HCL.out HCL.out rfl).mono ?_
      rintro e6 w6 ⟨rfl, hg6⟩
      have HB6 := Lib.hid (below_none HB5.out (Nat.le_refl _) hg6)
      have HZ6 := Lib.hid hg6.size
      have HOC6 := Lib.hid (HOC5.out.gnone hg6)
      have HCC6 := Lib.hid (HCC5.out.gnone hg6 (by have := HZ1.out; have := HZ2.out; have := HZ3.out; have := HZ4.out; have := HZ5.out; omega))
      have HOG6 := Lib.hid (HOG5.out.gnone hg6)
      have HCG6 := Lib.hid (HCG5.out.gnone hg6 (by have := HZ1.out; have := HZ2.out; have := HZ3.out; have := HZ4.out; have := HZ5.out; omega))
      have HOW6 := Lib.hid (HOW5.out.gnone hg6)
      have HCW6 := Lib.hid (HCW5.out.gnone hg6 (by have := HZ1.out; have := HZ2.out; have := HZ3.out; have := HZ4.out; have := HZ5.out; omega))
      clear hg6
      go_wp2_with fail
      go_ret
      exact ⟨rfl, HB6.out⟩
    · refine (specCacheValid_k w1.heap.size x1 c1 cs _ true HCC4.out (by have := HZ1.out; have := HZ2.out; have := HZ3.out; have := HZ4.out; omega) HS.out hcc).mono ?_
      rintro e5 w5 ⟨rfl, hg5⟩
      have HB5 := Lib.hid (below_none HB4.out (Nat.le_refl _) hg5)
      have HZ5 := Lib.hid hg5.size
      have HOC5 := Lib.hid (HOC4.out.gnone hg5)
      have HCC5 := Lib.hid (HCC4.out.gnone hg5 (by have := HZ1.out; have := HZ2.out; have := HZ3.out; have := HZ4.out; omega))
      have HOG5 := Lib.hid (HOG4.out.gnone hg5)
      have HCG5 := Lib.hid (HCG4.out.gnone hg5 (by have := HZ1.out; have := HZ2.out; have := HZ3.out; have := HZ4.out; omega))
      have HOW5 := Lib.hid (HOW4.out.gnone hg5)
      have HCW5 := Lib.hid (HCW4.out.gnone hg5 (by have := HZ1.out; have := HZ2.out; have := HZ3.out; have := HZ4.out; omega))
      clear hg5
      go_wp2_with fail
      have HDC : Hid (cdL cs e0 = cs.filter fun c => !(c.e == e0)) := by show _ = _; unfold cdL dropC; rw [hcc]; rfl
      clear hcc
      have HLT : Hid (OwnC (w5.alloc (.cells #[] 30)) w5.heap.size (.slice (some ⟨w5.heap.size, 0, none⟩) 0 0) []) := OwnC.lit w5 _ (Nat.le_refl _)
      have HGT : Hid (w5.grownBy (w5.alloc (.cells #[] 30)) none) := World.grownBy_alloc _ _ _
      have HWB : Hid (w1.heap.size ≤ w5.heap.size) := by show _ ≤ _; have := HZ1.out; have := HZ2.out; have := HZ3.out; have := HZ4.out; have := HZ5.out; omega
      have hcl : cs.length ≤ 1048576 := HS.out
      go_loopw [7, 8] (fun v i wr => ∃ k : Nat, k ≤ cs.length ∧ i = .int .i64 k ∧ w5.grownBy wr none ∧ Hid (OwnC wr w5.heap.size v ((cs.take k).filter fun c => !(c.e == e0)))) (fun _ i _ => cs.length - (intOf i).toNat)
      case atStart => exact ⟨0, Nat.zero_le _, rfl, HGT.out, HLT.out⟩
      case round =>
        obtain ⟨k, hk, rfl, hg, HO⟩ := hrel
        by_cases hlt : k < cs.length
        · obtain ⟨b, off, rfl, hb, c0, c1', c2, c3⟩ := HCC5.out.at4 HWB.out hg hlt
          have HG := Lib.hid hg
          have HE := Lib.hid (filter_take (q := fun c => !(c.e == e0)) hlt)
          have HL := Lib.hid (filter_take_le (cs := cs) (q := fun c => !(c.e == e0)) (k := k))
          clear hg
          generalize cs.getD k c0V = c at *
          rcases hce : (c.e == e0)
          · have hce2 : ¬ (c.e = e0) := by simpa using hce
            go_wp2_with (at_builtin; refine wpList_appC rfl _ _ rfl w5.heap.size _ _ rfl (HO.out.gnone (World.grownBy_alloc _ _ _)) (wr.heap.size + 1) wr.heap.size 0 1 1 [c] rfl rfl (box_caches _ _ _) ?c1 ?c2 ?_)
            case c1 => have := HL.out; have := HS.out; simp; omega
            case c2 => have := HG.out.size; simp; omega
            intro v' w' ho hg
            have HF : Hid (w5.grownBy w' none ∧ OwnC w' w5.heap.size v' ((cs.take (k + 1)).filter fun c => !(c.e == e0))) := by
              refine ⟨none_row (none_trans HG.out (World.grownBy_alloc _ _ _)) hg (fun j ej => (HO.out.lt j ej).1), ?_⟩
              rw [HE.out, hce]
              exact ho
            clear ho hg
            go_wp2_with fail
            go_roundw
            case rel => exact ⟨k + 1, by omega, by go_num, HF.out.1, HF.out.2⟩
            case measure => simp [intOf]; omega
          · have hce2 : c.e = e0 := by simpa using hce
            go_wp2_with fail
            go_roundw
            case rel => exact ⟨k + 1, by omega, by go_num, HG.out, by show OwnC _ _ _ _; rw [HE.out, hce]; simpa using HO.out⟩
            case measure => simp [intOf]; omega
        · have : k = cs.length := by omega
          subst this
          have ho2 := HO.out
          rw [List.take_length, ← HDC.out] at ho2
          have HO2 := Lib.hid ho2
          clear ho2
          obtain ⟨xr, cr, rfl, _, _, hmr⟩ := HO2.out.caches (fun g e => (HO2.out.lt g e).2)
          have HMR := Lib.hid hmr
          have HGR := Lib.hid hg
          clear hmr hg
          have hz := HGR.out.size
          go_wp2_with fail
          refine (sameCache_k w2.heap.size wr.heap.size x2 xr c2 cr (cdL cs e0) (cdL cs e0) _ (HCG5.out.gnone HGR.out (by have := HZ1.out; have := HZ2.out; have := HZ3.out; have := HZ4.out; have := HZ5.out; omega)) HMR.out (by have := HZ1.out; have := HZ2.out; have := HZ3.out; have := HZ4.out; have := HZ5.out; omega) (Nat.le_refl _) HCL.out HCL.out rfl).mono ?_
          rintro e w' ⟨rfl, hg⟩
          have HF : Hid (Below w.heap.size w w') := below_none HB5.out (Nat.le_refl _) (none_trans HGR.out hg)
          clear hg
          go_wp2_with fail
          go_ret
          exact ⟨rfl, HF.out⟩
theorem cf_found {cs : List CachedV} {p q : Int} (h : cfB cs p q = true) : 0 ≤ fnd cs p q ∧ (fnd cs p q).toNat < cs.length ∧ ((cfV cs p q).e = p ∧ (cfV cs p q).p = q) ∧ cs.getD (fnd cs p q).toNat c0V = cfV cs p q := by
  have h2 : 0 ≤ fnd cs p q := by unfold cfB at h; rw [Bool.and_eq_true, decide_eq_true_eq] at h; exact h.2
  have hv : cfV cs p q = cs.getD (fnd cs p q).toNat c0V := by unfold cfV; rw [h]; rfl
  rcases fnd_cases cs p q with ⟨h3, _⟩ | ⟨k, hk, h3, hh, _⟩
  · rw [h3] at h2; omega
  · have e : (fnd cs p q).toNat = k := by rw [h3]; omega
    rw [hv, e]
    exact ⟨h2, hk, hit_iff.1 hh, rfl⟩
set_option maxHeartbeats 4000000 in
theorem FnCacheFind_w (a : Option Addr) (len cap : Nat) (w : World) (hB : Bytes w w.heap.size a len) (hc : len ≤ cap) (hm : len ≤ maxLen) :
    Calls Try.prog 4 #[.slice a len cap] w fun e w' => e = .returned (.bool true) ∧ Below w.heap.size w w' := by
  have HBY := Lib.hid hB
  clear hB
  by_cases hlong : 1048576 < len
  · have hlong' : (1048576 : Int) < (len : Int) := by omega
    unfold maxLen at hm
    go_enter Try.func4, Try.ntmps4
    go_wp2_with fail
    go_ret
    exact ⟨rfl, Below.refl _ _⟩
  · have hlong' : ¬ (1048576 : Int) < (len : Int) := by omega
    go_enter Try.func4, Try.ntmps4
    go_wp2_with fail
    refine (DrawCacheFind_c a len cap w HBY.out hc hm).mono ?_
    rintro e w1 ⟨v1, cs, p, q, rfl, ho1, hl1, hb1⟩
    obtain ⟨x1, c1, rfl, hk1, _, hm1⟩ := ho1.caches (fun g e => (ho1.lt g e).2)
    have HHC : Hid (∀ g, Value.ownBlock (.slice x1 cs.length c1) = some g → g < w1.heap.size) := fun g e => (ho1.lt g e).2
    have HKC := Lib.hid hk1
    have HL8 := Lib.hid hl1
    have HS : Hid (cs.length ≤ 1048576) := Nat.le_trans hl1 (by omega)
    have HSL : Hid (∀ x : CachedV, (cpL cs x).length ≤ 1048576) := fun x => cpL_len x
    have HB1 := Lib.hid hb1
    have HZ1 := Lib.hid hb1.size
    have HOC1 := Lib.hid ho1
    have HCC1 := Lib.hid hm1
    clear ho1 hl1 hb1 hk1 hm1
    go_wp2_with fail
    refine (implCacheFind_c w1.heap.size x1 c1 (cs) p q _ HCC1.out (by have := HZ1.out; omega) HS.out HKC.out).mono ?_
    rintro e2 w2 ⟨rfl, hg2⟩
    have HB2 := Lib.hid (below_none HB1.out (Nat.le_refl _) hg2)
    have HZ2 := Lib.hid hg2.size
    have HOC2 := Lib.hid (HOC1.out.gnone hg2)
    have HCC2 := Lib.hid (HCC1.out.gnone hg2 (by have := HZ1.out; omega))
    clear hg2
    go_wp2_with fail
    generalize hw3 : World.alloc _ _ = w3
    have hg3 : w2.grownBy w3 none := by rw [← hw3]; exact World.grownBy_alloc _ _ _
    have hb3 : Caches w3 (w2.heap.size + 1) (some ⟨w2.heap.size, 0, none⟩) [cfV cs p q] := by rw [← hw3]; exact box_caches _ _ _
    have hz3 : w2.heap.size + 1 ≤ w3.heap.size := by rw [← hw3]; simp
    have HB3 := Lib.hid (below_none HB2.out (Nat.le_refl _) hg3)
    have HZ3 := Lib.hid hg3.size
    have HOC3 := Lib.hid (HOC2.out.gnone hg3)
    have HCC3 := Lib.hid (HCC2.out.gnone hg3 (by have := HZ1.out; have := HZ2.out; omega))
    have HZ3 := Lib.hid hz3
    have HCf3 := Lib.hid hb3
    clear hg3 hb3 hw3 hz3
    refine (specCacheFind_c w1.heap.size x1 c1 (cs) p q _ HCC3.out (by have := HZ1.out; have := HZ2.out; have := HZ3.out; omega) HS.out).mono ?_
    rintro e4 w4 ⟨rfl, hg4⟩
    have HB4 := Lib.hid (below_none HB3.out (Nat.le_refl _) hg4)
    have HZ4 := Lib.hid hg4.size
    have HOC4 := Lib.hid (HOC3.out.gnone hg4)
    have HCC4 := Lib.hid (HCC3.out.gnone hg4 (by have := HZ1.out; have := HZ2.out; have := HZ3.out; omega))
    have HCf4 := Lib.hid (HCf3.out.gnone hg4 (by have := HZ1.out; have := HZ2.out; have := HZ3.out; omega))
    clear hg4
    obtain ⟨bb0, bb1, bb2, bb3⟩ := HCf4.out.box
    have bbl := World.block_lt_of_cell? _ _ bb0
    have hE1 := neqC_self (cfV cs p q)
    have hE2 := eqC_self (cfV cs p q)
    have hE3 := grdC .neq
    have hE4 := grdC .eql
    rcases hcf : cfB cs p q
    · go_wp2_with fail
      go_ret
      exact ⟨rfl, HB4.out.alloc HB4.out.size _⟩
    · have HFD := Lib.hid (cf_found hcf)
      clear hcf
      go_wp2_with fail
      clear bb0 bb1 bb2 bb3 bbl hE1 hE2 hE3 hE4
      generalize hw5 : World.alloc _ _ = w5
      have hg5 : w4.grownBy w5 none := by rw [← hw5]; exact World.grownBy_alloc _ _ _
      have hb5 : Caches w5 (w4.heap.size + 1) (some ⟨w4.heap.size, 0, none⟩) [cfV cs p q] := by rw [← hw5]; exact box_caches _ _ _
      have hz5 : w4.heap.size + 1 ≤ w5.heap.size := by rw [← hw5]; simp
      have HB5 := Lib.hid (below_none HB4.out (Nat.le_refl _) hg5)
      have HZ5 := Lib.hid hg5.size
      have HOC5 := Lib.hid (HOC4.out.gnone hg5)
      have HCC5 := Lib.hid (HCC4.out.gnone hg5 (by have := HZ1.out; have := HZ2.out; have := HZ3.out; have := HZ4.out; omega))
      have HCf5 := Lib.hid (HCf4.out.gnone hg5 (by have := HZ1.out; have := HZ2.out; have := HZ3.out; have := HZ4.out; omega))
      have HZ5 := Lib.hid hz5
      have HCh5 := Lib.hid hb5
      clear hg5 hb5 hw5 hz5
      have HWB : Hid (w1.heap.size ≤ w5.heap.size) := by show _ ≤ _; have := HZ1.out; have := HZ2.out; have := HZ3.out; have := HZ4.out; have := HZ5.out; omega
      obtain ⟨bb0, bb1, bb2, bb3⟩ := HCf5.out.box
      have hcl : cs.length ≤ 1048576 := HS.out
      go_loopw [10] (fun i wr => ∃ k : Nat, k ≤ (fnd cs p q).toNat ∧ i = .int .i64 k ∧ w5.grownBy wr none) (fun i _ => cs.length - (intOf i).toNat)
      case atStart => exact ⟨0, Nat.zero_le _, rfl, grown_refl _ _⟩
      case round =>
        obtain ⟨k, hk, rfl, hg⟩ := hrel
        obtain ⟨f1, f2, f3, f4⟩ := HFD.out
        have hlt : k < cs.length := by omega
        obtain ⟨b, off, rfl, hb, c0, c1', c2, c3⟩ := HCC5.out.at4 HWB.out hg hlt
        have y0 := hg.cell bb0 (by simp)
        have y1 := hg.cell bb1 (by simp)
        have y2 := hg.cell bb2 (by simp)
        have y3 := hg.cell bb3 (by simp)
        have HG := Lib.hid hg
        have HKN : Hid (cs.getD k c0V ≠ cfV cs p q → k + 1 ≤ (fnd cs p q).toNat) := fun hne => by
          by_cases e : k = (fnd cs p q).toNat
          · exact absurd (by rw [e]; exact f4) hne
          · omega
        have HPQ : Hid ((cfV cs p q).e = p ∧ (cfV cs p q).p = q) := f3
        have HFL : Hid ((fnd cs p q).toNat < cs.length) := f2
        clear hg f1 f2 f3 f4
        have hltI : (k : Int) < (cs.length : Int) := by omega
        generalize cs.getD k c0V = c at *
        generalize cfV cs p q = y at *
        go_wp2_with fail
        have g0 : ∀ p : GW wr, p.v.cell? ⟨b, off + k * 4, none⟩ = some (.int .i64 c.e) := fun p => p.h.cell c0 (by simp)
        have g1 : ∀ p : GW wr, p.v.cell? ⟨b, off + k * 4 + 1, none⟩ = some (.int .i64 c.p) := fun p => p.h.cell c1' (by simp)
        have g2 : ∀ p : GW wr, p.v.cell? ⟨b, off + k * 4 + 2, none⟩ = some (.int .i64 c.f) := fun p => p.h.cell c2 (by simp)
        have g3 : ∀ p : GW wr, p.v.cell? ⟨b, off + k * 4 + 3, none⟩ = some (.bool c.b) := fun p => p.h.cell c3 (by simp)
        have k0 : ∀ p : GW wr, p.v.cell? ⟨w2.heap.size, 0, none⟩ = some (.int .i64 y.e) := fun p => p.h.cell y0 (by simp)
        have k1 : ∀ p : GW wr, p.v.cell? ⟨w2.heap.size, 1, none⟩ = some (.int .i64 y.p) := fun p => p.h.cell y1 (by simp)
        have k2 : ∀ p : GW wr, p.v.cell? ⟨w2.heap.size, 2, none⟩ = some (.int .i64 y.f) := fun p => p.h.cell y2 (by simp)
        have k3 : ∀ p : GW wr, p.v.cell? ⟨w2.heap.size, 3, none⟩ = some (.bool y.b) := fun p => p.h.cell y3 (by simp)
        have hD := grdC .eql
        clear c0 c1' c2 c3
        by_cases hcy : c = y
        · subst hcy
          have hE : ∀ W : World, (binOp .eql 30 (.agg #[.int .i64 c.e, .int .i64 c.p, .int .i64 c.f, .bool c.b]) (.agg #[.int .i64 c.e, .int .i64 c.p, .int .i64 c.f, .bool c.b])).run Try.prog W = .ok (.bool true) W := fun W => eqC_self c W
          (refine wp_region_quiet_gw (by kernel_rfl) (by kernel_rfl) ?_; (repeat (quiet_step (fail))); refine wpQuiet_nil ?_; intro wq hw'; obtain ⟨⟨_, hgq⟩, hw''⟩ := hw'; subst hw'')
          have z0 := hgq.cell y0 (by simp)
          have z1 := hgq.cell y1 (by simp)
          have HQ : Hid (Below w.heap.size w wq) := below_none HB5.out (Nat.le_refl _) (none_trans HG.out hgq)
          obtain ⟨e1, e2⟩ := HPQ.out
          have he1 : (c.e == p) = true := by rw [beq_iff_eq]; exact e1
          have he2 : (c.p == q) = true := by rw [beq_iff_eq]; exact e2
          clear hgq hE hD g0 g1 g2 g3 k0 k1 k2 k3 y0 y1 y2 y3 bb0 bb1 bb2 bb3 e1 e2
          go_wp2_with fail
          go_ret
          exact ⟨rfl, HQ.out⟩
        · have HK1 := Lib.hid (HKN.out hcy)
          have hdc : decide (c = y) = false := decide_eq_false hcy
          have hE : ∀ W : World, (binOp .eql 30 (.agg #[.int .i64 c.e, .int .i64 c.p, .int .i64 c.f, .bool c.b]) (.agg #[.int .i64 y.e, .int .i64 y.p, .int .i64 y.f, .bool y.b])).run Try.prog W = .ok (.bool false) W := fun W => by rw [eqC_run, hdc]
          clear hcy hdc
          (refine wp_region_quiet_gw (by kernel_rfl) (by kernel_rfl) ?_; (repeat (quiet_step (fail))); refine wpQuiet_nil ?_; intro wq hw'; obtain ⟨⟨_, hgq⟩, hw''⟩ := hw'; subst hw'')
          have HQ := Lib.hid (none_trans HG.out hgq)
          clear hgq hE hD g0 g1 g2 g3 k0 k1 k2 k3 y0 y1 y2 y3
          go_wp2_with fail
          go_roundw
          case rel => exact ⟨k + 1, HK1.out, by go_num, HQ.out⟩
          case measure => simp [intOf]; omega
theorem cp_put {cs : List CachedV} {x : CachedV} (h : cpB cs x = true) : cpL cs x = putC cs x := by unfold cpL; rw [h]; rfl
theorem cp_valid {cs : List CachedV} {x : CachedV} (h : cpB cs x = true) : ccB (cpL cs x) = true := by rw [cp_put h]; exact putC_ok h
theorem cp_last {cs : List CachedV} {x : CachedV} (h : cpB cs x = true) : ∃ k, (cpL cs x).length = k + 1 ∧ (cpL cs x).getD k c0V = x := by
  obtain ⟨_, h2, h3⟩ := fnd_put (cs := cs) (x := x)
  exact ⟨(keepC cs x).length, by rw [cp_put h]; exact h2, by rw [cp_put h]; exact h3⟩
theorem cf_put {cs : List CachedV} {x : CachedV} (h : cpB cs x = true) : cfB (cpL cs x) x.e x.p = true ∧ cfV (cpL cs x) x.e x.p = x := by
  obtain ⟨h1, _, h3⟩ := fnd_put (cs := cs) (x := x)
  obtain ⟨h4, h5⟩ := cf_at (cs := cpL cs x) (e := x.e) (p := x.p) (k := (keepC cs x).length) (cp_valid h) (by rw [cp_put h]; exact h1)
  exact ⟨h4, by rw [h5, cp_put h]; exact h3⟩
set_option maxHeartbeats 4000000 in
theorem FnCachePut_w (a : Option Addr) (len cap : Nat) (w : World) (hB : Bytes w w.heap.size a len) (hc : len ≤ cap) (hm : len ≤ maxLen) :
    Calls Try.prog 9 #[.slice a len cap] w fun e w' => e = .returned (.bool true) ∧ Below w.heap.size w w' := by
  have HBY := Lib.hid hB
  clear hB
  by_cases hlong : 1048576 < len
  · have hlong' : (1048576 : Int) < (len : Int) := by omega
    unfold maxLen at hm
    go_enter Try.func9, Try.ntmps9
    go_wp2_with fail
    go_ret
    exact ⟨rfl, Below.refl _ _⟩
  · have hlong' : ¬ (1048576 : Int) < (len : Int) := by omega
    go_enter Try.func9, Try.ntmps9
    go_wp2_with fail
    refine (DrawCachePut_c a len cap w HBY.out hc hm).mono ?_
    rintro e w1 ⟨v1, cs, x, rfl, ho1, hl1, hb1⟩
    obtain ⟨x1, c1, rfl, hk1, _, hm1⟩ := ho1.caches (fun g e => (ho1.lt g e).2)
    have HHC : Hid (∀ g, Value.ownBlock (.slice x1 cs.length c1) = some g → g < w1.heap.size) := fun g e => (ho1.lt g e).2
    have HKC := Lib.hid hk1
    have HL8 := Lib.hid hl1
    have HS : Hid (cs.length ≤ 1048576) := Nat.le_trans hl1 (by omega)
    have HSL : Hid (∀ x : CachedV, (cpL cs x).length ≤ 1048576) := fun x => cpL_len x
    have HB1 := Lib.hid hb1
    have HZ1 := Lib.hid hb1.size
    have HOC1 := Lib.hid ho1
    have HCC1 := Lib.hid hm1
    clear ho1 hl1 hb1 hk1 hm1
    go_wp2_with fail
    generalize hw2 : World.alloc _ _ = w2
    have hg2 : w1.grownBy w2 none := by rw [← hw2]; exact World.grownBy_alloc _ _ _
    have hb2 : Caches w2 (w1.heap.size + 1) (some ⟨w1.heap.size, 0, none⟩) [x] := by rw [← hw2]; exact box_caches _ _ _
    have hz2 : w1.heap.size + 1 ≤ w2.heap.size := by rw [← hw2]; simp
    have HB2 := Lib.hid (below_none HB1.out (Nat.le_refl _) hg2)
    have HZ2 := Lib.hid hg2.size
    have HOC2 := Lib.hid (HOC1.out.gnone hg2)
    have HCC2 := Lib.hid (HCC1.out.gnone hg2 (by have := HZ1.out; omega))
    have HZ2 := Lib.hid hz2
    have HCb2 := Lib.hid hb2
    clear hg2 hb2 hw2 hz2
    refine (implCachePut_c w1.heap.size x1 c1 cs x _ HCC2.out (by have := HZ1.out; have := HZ2.out; omega) HS.out HKC.out).mono ?_
    rintro e3 w3 ⟨v3, rfl, ho3, hg3⟩
    have hh3 : ∀ g, v3.ownBlock = some g → g < w3.heap.size := fun g e => (ho3.lt g e).2
    obtain ⟨x3, c3, rfl, hk3, _, hm3⟩ := ho3.caches hh3
    have HHG := Lib.hid hh3
    have HKG := Lib.hid hk3
    have HB3 := Lib.hid (below_none HB2.out (Nat.le_refl _) hg3)
    have HZ3 := Lib.hid hg3.size
    have HOC3 := Lib.hid (HOC2.out.gnone hg3)
    have HCC3 := Lib.hid (HCC2.out.gnone hg3 (by have := HZ1.out; have := HZ2.out; omega))
    have HCb3 := Lib.hid (HCb2.out.gnone hg3 (by have := HZ1.out; have := HZ2.out; omega))
    have HOG3 := Lib.hid ho3
    have HCG3 := Lib.hid hm3
    clear ho3 hm3 hg3 hh3 hk3
    obtain ⟨bb0, bb1, bb2, bb3⟩ := HCb3.out.box
    have bbl := World.block_lt_of_cell? _ _ bb0
    go_wp2_with fail
    refine (specCachePut_c w1.heap.size x1 c1 cs x _ HCC3.out (by have := HZ1.out; have := HZ2.out; have := HZ3.out; omega) HS.out).mono ?_
    rintro e4 w4 ⟨v4, rfl, ho4, hg4⟩
    have hh4 : ∀ g, v4.ownBlock = some g → g < w4.heap.size := fun g e => (ho4.lt g e).2
    obtain ⟨x4, c4, rfl, hk4, _, hm4⟩ := ho4.caches hh4
    have HHW := Lib.hid hh4
    have HKW := Lib.hid hk4
    have HB4 := Lib.hid (below_none HB3.out (Nat.le_refl _) hg4)
    have HZ4 := Lib.hid hg4.size
    have HOC4 := Lib.hid (HOC3.out.gnone hg4)
    have HCC4 := Lib.hid (HCC3.out.gnone hg4 (by have := HZ1.out; have := HZ2.out; have := HZ3.out; omega))
    have HOG4 := Lib.hid (HOG3.out.gnone hg4)
    have HCG4 := Lib.hid (HCG3.out.gnone hg4 (by have := HZ1.out; have := HZ2.out; have := HZ3.out; omega))
    have HCb4 := Lib.hid (HCb3.out.gnone hg4 (by have := HZ1.out; have := HZ2.out; have := HZ3.out; omega))
    have HOW4 := Lib.hid ho4
    have HCW4 := Lib.hid hm4
    clear ho4 hm4 hg4 hh4 hk4
    clear bb0 bb1 bb2 bb3 bbl
    rcases hcp : cpB cs x
    · go_wp2_with fail
      refine (sameCache_k w3.heap.size w4.heap.size x3 x4 c3 c4 (cpL cs x) (cpL cs x) _ HCG4.out HCW4.out (by have := HZ1.out; have := HZ2.out; have := HZ3.out; have := HZ4.out; omega) (by have := HZ1.out; have := HZ2.out; have := HZ3.out; have := HZ4.out; omega) (HSL.out x) (HSL.out x) rfl).mono ?_
      rintro e5 w5 ⟨rfl, hg5⟩
      have HB5 := Lib.hid (below_none HB4.out (Nat.le_refl _) hg5)
      have HZ5 := Lib.hid hg5.size
      have HOC5 := Lib.hid (HOC4.out.gnone hg5)
      have HCC5 := Lib.hid (HCC4.out.gnone hg5 (by have := HZ1.out; have := HZ2.out; have := HZ3.out; have := HZ4.out; omega))
      have HOG5 := Lib.hid (HOG4.out.gnone hg5)
      have HCG5 := Lib.hid (HCG4.out.gnone hg5 (by have := HZ1.out; have := HZ2.out; have := HZ3.out; have := HZ4.out; omega))
      have HOW5 := Lib.hid (HOW4.out.gnone hg5)
      have HCW5 := Lib.hid (HCW4.out.gnone hg5 (by have := HZ1.out; have := HZ2.out; have := HZ3.out; have := HZ4.out; omega))
      have HCb5 := Lib.hid (HCb4.out.gnone hg5 (by have := HZ1.out; have := HZ2.out; have := HZ3.out; have := HZ4.out; omega))
      clear hg5
      go_wp2_with fail
      refine (sameCache_k w3.heap.size w4.heap.size x3 x4 c3 c4 (cpL cs x) (cpL cs x) _ HCG5.out HCW5.out (by have := HZ1.out; have := HZ2.out; have := HZ3.out; have := HZ4.out; have := HZ5.out; omega) (by have := HZ1.out; have := HZ2.out; have := HZ3.out; have := HZ4.out; have := HZ5.out; omega) (HSL.out x) (HSL.out x) rfl).mono ?_
      rintro e6 w6 ⟨rfl, hg6⟩
      have HB6 := Lib.hid (below_none HB5.out (Nat.le_refl _) hg6)
      have HZ6 := Lib.hid hg6.size
      have HOC6 := Lib.hid (HOC5.out.gnone hg6)
      have HCC6 := Lib.hid (HCC5.out.gnone hg6 (by have := HZ1.out; have := HZ2.out; have := HZ3.out; have := HZ4.out; have := HZ5.out; omega))
      have HOG6 := Lib.hid (HOG5.out.gnone hg6)
      have HCG6 := Lib.hid (HCG5.out.gnone hg6 (by have := HZ1.out; have := HZ2.out; have := HZ3.out; have := HZ4.out; have := HZ5.out; omega))
      have HOW6 := Lib.hid (HOW5.out.gnone hg6)
      have HCW6 := Lib.hid (HCW5.out.gnone hg6 (by have := HZ1.out; have := HZ2.out; have := HZ3.out; have := HZ4.out; have := HZ5.out; omega))
      have HCb6 := Lib.hid (HCb5.out.gnone hg6 (by have := HZ1.out; have := HZ2.out; have := HZ3.out; have := HZ4.out; have := HZ5.out; omega))
      clear hg6
      go_wp2_with fail
      go_ret
      exact ⟨rfl, HB6.out⟩
    · have HPF := Lib.hid (cf_put hcp)
      obtain ⟨k, hk1, hk2⟩ := cp_last hcp
      have HK1 := Lib.hid hk1
      have HK2 := Lib.hid hk2
      have HCV : Hid (ccB (cpL cs x) = true) := cp_valid hcp
      clear hk1 hk2
      go_wp2_with fail
      refine (sameCache_k w3.heap.size w4.heap.size x3 x4 c3 c4 (cpL cs x) (cpL cs x) _ HCG4.out HCW4.out (by have := HZ1.out; have := HZ2.out; have := HZ3.out; have := HZ4.out; omega) (by have := HZ1.out; have := HZ2.out; have := HZ3.out; have := HZ4.out; omega) (HSL.out x) (HSL.out x) rfl).mono ?_
      rintro e5 w5 ⟨rfl, hg5⟩
      have HB5 := Lib.hid (below_none HB4.out (Nat.le_refl _) hg5)
      have HZ5 := Lib.hid hg5.size
      have HOC5 := Lib.hid (HOC4.out.gnone hg5)
      have HCC5 := Lib.hid (HCC4.out.gnone hg5 (by have := HZ1.out; have := HZ2.out; have := HZ3.out; have := HZ4.out; omega))
      have HOG5 := Lib.hid (HOG4.out.gnone hg5)
      have HCG5 := Lib.hid (HCG4.out.gnone hg5 (by have := HZ1.out; have := HZ2.out; have := HZ3.out; have := HZ4.out; omega))
      have HOW5 := Lib.hid (HOW4.out.gnone hg5)
      have HCW5 := Lib.hid (HCW4.out.gnone hg5 (by have := HZ1.out; have := HZ2.out; have := HZ3.out; have := HZ4.out; omega))
      have HCb5 := Lib.hid (HCb4.out.gnone hg5 (by have := HZ1.out; have := HZ2.out; have := HZ3.out; have := HZ4.out; omega))
      clear hg5
      obtain ⟨bb0, bb1, bb2, bb3⟩ := HCb5.out.box
      have bbl := World.block_lt_of_cell? _ _ bb0
      go_wp2_with fail
      refine (implCacheFind_c w3.heap.size x3 c3 (cpL cs x) x.e x.p _ HCG5.out (by have := HZ1.out; have := HZ2.out; have := HZ3.out; have := HZ4.out; have := HZ5.out; omega) (HSL.out x) HKG.out).mono ?_
      rintro e6 w6 hfo
      obtain ⟨rfl, hg6⟩ := cfound_k hfo HPF.out.1 HPF.out.2
      clear hfo
      have HB6 := Lib.hid (below_none HB5.out (Nat.le_refl _) hg6)
      have HZ6 := Lib.hid hg6.size
      have HOC6 := Lib.hid (HOC5.out.gnone hg6)
      have HCC6 := Lib.hid (HCC5.out.gnone hg6 (by have := HZ1.out; have := HZ2.out; have := HZ3.out; have := HZ4.out; have := HZ5.out; omega))
      have HOG6 := Lib.hid (HOG5.out.gnone hg6)
      have HCG6 := Lib.hid (HCG5.out.gnone hg6 (by have := HZ1.out; have := HZ2.out; have := HZ3.out; have := HZ4.out; have := HZ5.out; omega))
      have HOW6 := Lib.hid (HOW5.out.gnone hg6)
      have HCW6 := Lib.hid (HCW5.out.gnone hg6 (by have := HZ1.out; have := HZ2.out; have := HZ3.out; have := HZ4.out; have := HZ5.out; omega))
      have HCb6 := Lib.hid (HCb5.out.gnone hg6 (by have := HZ1.out; have := HZ2.out; have := HZ3.out; have := HZ4.out; have := HZ5.out; omega))
      clear hg6 bb0 bb1 bb2 bb3 bbl
      go_wp2_with fail
      generalize hw7 : World.alloc _ _ = w7
      have hg7 : w6.grownBy w7 none := by rw [← hw7]; exact World.grownBy_alloc _ _ _
      have hb7 : Caches w7 (w6.heap.size + 1) (some ⟨w6.heap.size, 0, none⟩) [x] := by rw [← hw7]; exact box_caches _ _ _
      have hz7 : w6.heap.size + 1 ≤ w7.heap.size := by rw [← hw7]; simp
      have HB7 := Lib.hid (below_none HB6.out (Nat.le_refl _) hg7)
      have HZ7 := Lib.hid hg7.size
      have HOC7 := Lib.hid (HOC6.out.gnone hg7)
      have HCC7 := Lib.hid (HCC6.out.gnone hg7 (by have := HZ1.out; have := HZ2.out; have := HZ3.out; have := HZ4.out; have := HZ5.out; have := HZ6.out; omega))
      have HOG7 := Lib.hid (HOG6.out.gnone hg7)
      have HCG7 := Lib.hid (HCG6.out.gnone hg7 (by have := HZ1.out; have := HZ2.out; have := HZ3.out; have := HZ4.out; have := HZ5.out; have := HZ6.out; omega))
      have HOW7 := Lib.hid (HOW6.out.gnone hg7)
      have HCW7 := Lib.hid (HCW6.out.gnone hg7 (by have := HZ1.out; have := HZ2.out; have := HZ3.out; have := HZ4.out; have := HZ5.out; have := HZ6.out; omega))
      have HCb7 := Lib.hid (HCb6.out.gnone hg7 (by have := HZ1.out; have := HZ2.out; have := HZ3.out; have := HZ4.out; have := HZ5.out; have := HZ6.out; omega))
      have HZ7 := Lib.hid hz7
      have HCf7 := Lib.hid hb7
      clear hg7 hb7 hw7 hz7
      obtain ⟨bb0, bb1, bb2, bb3⟩ := HCb7.out.box
      have bbl := World.block_lt_of_cell? _ _ bb0
      obtain ⟨dd0, dd1, dd2, dd3⟩ := HCf7.out.box
      have ddl := World.block_lt_of_cell? _ _ dd0
      obtain ⟨b, off, hxg, hb, q0, q1, q2, q3⟩ := HCG7.out.at_ (i := k) (by rw [HK1.out]; omega)
      rw [HK2.out] at q0 q1 q2 q3
      subst hxg
      have g0 : ∀ p : GW w7, p.v.cell? ⟨b, off + k * 4, none⟩ = some (.int .i64 x.e) := fun p => p.h.cell q0 (by simp)
      have g1 : ∀ p : GW w7, p.v.cell? ⟨b, off + k * 4 + 1, none⟩ = some (.int .i64 x.p) := fun p => p.h.cell q1 (by simp)
      have g2 : ∀ p : GW w7, p.v.cell? ⟨b, off + k * 4 + 2, none⟩ = some (.int .i64 x.f) := fun p => p.h.cell q2 (by simp)
      have g3 : ∀ p : GW w7, p.v.cell? ⟨b, off + k * 4 + 3, none⟩ = some (.bool x.b) := fun p => p.h.cell q3 (by simp)
      have kb0 : ∀ p : GW w7, p.v.cell? ⟨w1.heap.size, 0, none⟩ = some (.int .i64 x.e) := fun p => p.h.cell bb0 (by simp)
      have kb1 : ∀ p : GW w7, p.v.cell? ⟨w1.heap.size, 1, none⟩ = some (.int .i64 x.p) := fun p => p.h.cell bb1 (by simp)
      have kb2 : ∀ p : GW w7, p.v.cell? ⟨w1.heap.size, 2, none⟩ = some (.int .i64 x.f) := fun p => p.h.cell bb2 (by simp)
      have kb3 : ∀ p : GW w7, p.v.cell? ⟨w1.heap.size, 3, none⟩ = some (.bool x.b) := fun p => p.h.cell bb3 (by simp)
      have kd0 : ∀ p : GW w7, p.v.cell? ⟨w6.heap.size, 0, none⟩ = some (.int .i64 x.e) := fun p => p.h.cell dd0 (by simp)
      have kd1 : ∀ p : GW w7, p.v.cell? ⟨w6.heap.size, 1, none⟩ = some (.int .i64 x.p) := fun p => p.h.cell dd1 (by simp)
      have kd2 : ∀ p : GW w7, p.v.cell? ⟨w6.heap.size, 2, none⟩ = some (.int .i64 x.f) := fun p => p.h.cell dd2 (by simp)
      have kd3 : ∀ p : GW w7, p.v.cell? ⟨w6.heap.size, 3, none⟩ = some (.bool x.b) := fun p => p.h.cell dd3 (by simp)
      have hE := eqC_self x
      have hD := grdC .eql
      have hcv := fun p : GW w7 => Lib.hid (implCacheValid_k w3.heap.size (some ⟨b, off, none⟩) c3 (cpL cs x) p.v true (HCG7.out.gnone p.h (by have := HZ1.out; have := HZ2.out; have := HZ3.out; have := HZ4.out; have := HZ5.out; have := HZ6.out; have := HZ7.out; omega)) (Nat.le_trans (by have := HZ1.out; have := HZ2.out; have := HZ3.out; have := HZ4.out; have := HZ5.out; have := HZ6.out; have := HZ7.out; omega) p.h.size) (HSL.out x) HKG.out HCV.out)
      have HCC := Lib.hid hcv
      have hLk := HK1.out
      have hLs := HSL.out x
      have hwr : IntKind.i64.wrap (((cpL cs x).length : Int) - 1) = (k : Int) := by rw [IntKind.wrap_i64, hLk]; omega
      have hp0 : (0 : Int) < ((cpL cs x).length : Int) := by omega
      have hp2 : 0 < (cpL cs x).length := by omega
      have hp3 : decide ((0 : Int) < ((cpL cs x).length : Int)) = true := decide_eq_true hp0
      have hp4 : decide (0 < (cpL cs x).length) = true := decide_eq_true hp2
      have hp1 : (k : Int) < ((cpL cs x).length : Int) := by omega
      clear hLk hLs hcv q0 q1 q2 q3 bb0 bb1 bb2 bb3 dd0 dd1 dd2 dd3
      (refine wp_region_quiet_gw (by kernel_rfl) (by kernel_rfl) ?_; (repeat (quiet_step (first | (go_at_call 11; exact Calls.gw_of (HCC.out _).out)))); refine wpQuiet_nil ?_; intro wq hw'; obtain ⟨⟨_, hgq⟩, hw''⟩ := hw'; subst hw'')
      have HQ : Hid (Below w.heap.size w wq) := below_none HB7.out (Nat.le_refl _) hgq
      clear hgq
      go_wp2_with fail
      go_ret
      exact ⟨rfl, HQ.out⟩
end Go.Proofs.Ythgdhikgknmioaa
