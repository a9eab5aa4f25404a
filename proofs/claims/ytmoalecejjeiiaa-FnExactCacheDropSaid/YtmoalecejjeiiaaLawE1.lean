/-
  The walks of the exact laws on lists of translations: each returns true and writes nothing that was there. No conditions.
-/
import Derived.Test.YtmoalecejjeiiaaOpenC
import Derived.Test.YtmoalecejjeiiaaCachePut
namespace Go.Proofs.Ytmoalecejjeiiaa
open Go.RowKit

theorem eqCachedS_k (B B' : Nat) (a a' : Option Addr) (cap cap' : Nat) (la lb : List CachedV) (w : World) (h : Caches w B a la) (h' : Caches w B' a' lb) (hB : B ≤ w.heap.size) (hB' : B' ≤ w.heap.size) (hm : la.length ≤ 1048576) (hm' : lb.length ≤ 1048576) (he : la = lb) :
    Calls Try.prog 11 #[.slice a la.length cap, .slice a' lb.length cap'] w fun en w' => en = .returned (.bool true) ∧ w.grownBy w' none := by
  have := eqCachedS_c B B' a a' cap cap' la lb w h h' hB hB' hm hm'
  rw [decide_eq_true he] at this
  exact this
theorem heldCachedS_k (B : Nat) (a : Option Addr) (cap : Nat) (xs : List CachedV) (m : Nat) (n : Int) (w : World) (h : Caches w B a xs) (hl : xs.length = m) (hm : m ≤ 1048576) (h0 : 0 ≤ n) (h1 : n ≤ 1000000000) (hM : ∀ j, j < m → xs.getD j c0V = markC n j) :
    Calls Try.prog 18 #[.slice a m cap, .int .i64 n] w fun en w' => en = .returned (.int .i64 (n + 4 * m)) ∧ w = w' := by
  subst hl
  exact heldCachedS_c B a cap xs n w h hm h0 h1 hM
set_option maxHeartbeats 2000000 in
theorem FnExactCacheValid_w (a : Option Addr) (len cap : Nat) (cs : List CachedV) (w : World) (h : CachesL w a len cap cs) :
    Calls Try.prog 3 #[.slice a len cap] w fun e w' => e = .returned (.bool true) ∧ Below w.heap.size w w' := by
  obtain ⟨rfl, hlc, hcm, hmem⟩ := h
  have HM := Lib.hid hmem
  clear hmem
  go_enter Try.func3, Try.ntmps3
  go_wp2_with fail
  refine (szCachedS_c a cs.length cap _ (by omega)).mono ?_
  rintro e w0 ⟨r, rfl, hr, rfl⟩
  have HSm := Lib.hid hr
  clear hr
  by_cases hneg : r < 0
  · go_wp2_with fail
    go_ret
    exact ⟨rfl, Below.refl _ _⟩
  · have HS := Lib.hid (HSm.out (by omega))
    clear HSm
    have HB0 := Lib.hid (Below.refl w.heap.size w)
    go_wp2_with fail
    refine (toCachedS_c w.heap.size a cap cs _ (HM.out.below HB0.out) HB0.out.size HS.out).mono ?_
    rintro e1 w1 ⟨v1, rfl, ho1, hg1⟩
    have hh1 : ∀ g, v1.ownBlock = some g → g < w1.heap.size := fun g e => (ho1.lt g e).2
    obtain ⟨x1, c1, rfl, hk1, _, hm1⟩ := ho1.caches hh1
    have HHT := Lib.hid hh1
    have HKT := Lib.hid hk1
    have HB1 := Lib.hid (below_none HB0.out (Nat.le_refl _) hg1)
    have HZ1 := Lib.hid hg1.size
    have HOT1 := Lib.hid ho1
    have HCT1 := Lib.hid hm1
    clear ho1 hm1 hg1 hh1 hk1
    go_wp2_with fail
    refine (specCacheValid_c w1.heap.size x1 c1 (cs) _ HCT1.out (by have := HZ1.out; omega) HS.out).mono ?_
    rintro e2 w2 ⟨rfl, hg2⟩
    have HB2 := Lib.hid (below_none HB1.out (Nat.le_refl _) hg2)
    have HZ2 := Lib.hid hg2.size
    have HOT2 := Lib.hid (HOT1.out.gnone hg2)
    have HCT2 := Lib.hid (HCT1.out.gnone hg2 (by have := HZ1.out; omega))
    clear hg2
    go_wp2_with fail
    refine (toCachedS_c w.heap.size a cap cs _ (HM.out.below HB2.out) HB2.out.size HS.out).mono ?_
    rintro e3 w3 ⟨v3, rfl, ho3, hg3⟩
    have hh3 : ∀ g, v3.ownBlock = some g → g < w3.heap.size := fun g e => (ho3.lt g e).2
    obtain ⟨x3, c3, rfl, hk3, _, hm3⟩ := ho3.caches hh3
    have HHX := Lib.hid hh3
    have HKX := Lib.hid hk3
    have HB3 := Lib.hid (below_none HB2.out (Nat.le_refl _) hg3)
    have HZ3 := Lib.hid hg3.size
    have HOX3 := Lib.hid ho3
    have HCX3 := Lib.hid hm3
    clear ho3 hm3 hg3 hh3 hk3
    go_wp2_with fail
    refine (implCacheValid_c w3.heap.size x3 c3 (cs) _ HCX3.out (by have := HZ1.out; have := HZ2.out; have := HZ3.out; omega) HS.out HKX.out).mono ?_
    rintro e4 w4 ⟨rfl, hg4⟩
    have HB4 := Lib.hid (below_none HB3.out (Nat.le_refl _) hg4)
    have HZ4 := Lib.hid hg4.size
    have HOX4 := Lib.hid (HOX3.out.gnone hg4)
    have HCX4 := Lib.hid (HCX3.out.gnone hg4 (by have := HZ1.out; have := HZ2.out; have := HZ3.out; omega))
    clear hg4
    go_wp2_with fail
    refine (toCachedS_c w.heap.size a cap cs _ (HM.out.below HB4.out) HB4.out.size HS.out).mono ?_
    rintro e5 w5 ⟨v5, rfl, ho5, hg5⟩
    have hh5 : ∀ g, v5.ownBlock = some g → g < w5.heap.size := fun g e => (ho5.lt g e).2
    obtain ⟨x5, c5, rfl, hk5, _, hm5⟩ := ho5.caches hh5
    have HHY := Lib.hid hh5
    have HKY := Lib.hid hk5
    have HB5 := Lib.hid (below_none HB4.out (Nat.le_refl _) hg5)
    have HZ5 := Lib.hid hg5.size
    have HOX5 := Lib.hid (HOX4.out.gnone hg5)
    have HCX5 := Lib.hid (HCX4.out.gnone hg5 (by have := HZ1.out; have := HZ2.out; have := HZ3.out; have := HZ4.out; omega))
    have HOY5 := Lib.hid ho5
    have HCY5 := Lib.hid hm5
    clear ho5 hm5 hg5 hh5 hk5
    go_wp2_with fail
    refine (eqCachedS_k w3.heap.size w5.heap.size x3 x5 c3 c5 (cs) (cs) _ HCX5.out HCY5.out (by have := HZ1.out; have := HZ2.out; have := HZ3.out; have := HZ4.out; have := HZ5.out; omega) (by have := HZ1.out; have := HZ2.out; have := HZ3.out; have := HZ4.out; have := HZ5.out; omega) HS.out HS.out rfl).mono ?_
    rintro e6 w6 ⟨rfl, hg6⟩
    have HB6 := Lib.hid (below_none HB5.out (Nat.le_refl _) hg6)
    have HZ6 := Lib.hid hg6.size
    have HOX6 := Lib.hid (HOX5.out.gnone hg6)
    have HCX6 := Lib.hid (HCX5.out.gnone hg6 (by have := HZ1.out; have := HZ2.out; have := HZ3.out; have := HZ4.out; have := HZ5.out; omega))
    have HOY6 := Lib.hid (HOY5.out.gnone hg6)
    have HCY6 := Lib.hid (HCY5.out.gnone hg6 (by have := HZ1.out; have := HZ2.out; have := HZ3.out; have := HZ4.out; have := HZ5.out; omega))
    clear hg6
    go_wp2_with fail
    go_ret
    exact ⟨rfl, HB6.out⟩
set_option maxHeartbeats 2000000 in
theorem FnExactCacheFind_w (a : Option Addr) (len cap : Nat) (cs : List CachedV) (p q : Int) (w : World) (h : CachesL w a len cap cs) :
    Calls Try.prog 4 #[.slice a len cap, .int .i64 p, .int .i64 q] w fun e w' => e = .returned (.bool true) ∧ Below w.heap.size w w' := by
  obtain ⟨rfl, hlc, hcm, hmem⟩ := h
  have HM := Lib.hid hmem
  clear hmem
  go_enter Try.func4, Try.ntmps4
  go_wp2_with fail
  refine (szCachedS_c a cs.length cap _ (by omega)).mono ?_
  rintro e w0 ⟨r, rfl, hr, rfl⟩
  have HSm := Lib.hid hr
  clear hr
  by_cases hneg : r < 0
  · go_wp2_with fail
    go_ret
    exact ⟨rfl, Below.refl _ _⟩
  · have HS := Lib.hid (HSm.out (by omega))
    clear HSm
    have HB0 := Lib.hid (Below.refl w.heap.size w)
    go_wp2_with fail
    refine (toCachedS_c w.heap.size a cap cs _ (HM.out.below HB0.out) HB0.out.size HS.out).mono ?_
    rintro e1 w1 ⟨v1, rfl, ho1, hg1⟩
    have hh1 : ∀ g, v1.ownBlock = some g → g < w1.heap.size := fun g e => (ho1.lt g e).2
    obtain ⟨x1, c1, rfl, hk1, _, hm1⟩ := ho1.caches hh1
    have HHT := Lib.hid hh1
    have HKT := Lib.hid hk1
    have HB1 := Lib.hid (below_none HB0.out (Nat.le_refl _) hg1)
    have HZ1 := Lib.hid hg1.size
    have HOT1 := Lib.hid ho1
    have HCT1 := Lib.hid hm1
    clear ho1 hm1 hg1 hh1 hk1
    go_wp2_with fail
    refine (specCacheFind_c w1.heap.size x1 c1 (cs) p q _ HCT1.out (by have := HZ1.out; omega) HS.out).mono ?_
    rintro e2 w2 ⟨rfl, hg2⟩
    have HB2 := Lib.hid (below_none HB1.out (Nat.le_refl _) hg2)
    have HZ2 := Lib.hid hg2.size
    have HOT2 := Lib.hid (HOT1.out.gnone hg2)
    have HCT2 := Lib.hid (HCT1.out.gnone hg2 (by have := HZ1.out; omega))
    clear hg2
    go_wp2_with fail
    generalize hw3 : World.alloc _ _ = w3
    have hg3 : w2.grownBy w3 none := by rw [← hw3]; exact World.grownBy_alloc _ _ _
    have hb3 : Caches w3 (w2.heap.size + 1) (some ⟨w2.heap.size, 0, none⟩) [cfV cs p q] := by rw [← hw3]; exact box_caches _ _ _
    have hz3 : w2.heap.size + 1 ≤ w3.heap.size := by rw [← hw3]; simp
    have HB3 := Lib.hid (below_none HB2.out (Nat.le_refl _) hg3)
    have HZ3 := Lib.hid hg3.size
    have HZ3 := Lib.hid hz3
    have HCb3 := Lib.hid hb3
    clear hg3 hb3 hw3 hz3
    refine (toCachedS_c w.heap.size a cap cs _ (HM.out.below HB3.out) HB3.out.size HS.out).mono ?_
    rintro e4 w4 ⟨v4, rfl, ho4, hg4⟩
    have hh4 : ∀ g, v4.ownBlock = some g → g < w4.heap.size := fun g e => (ho4.lt g e).2
    obtain ⟨x4, c4, rfl, hk4, _, hm4⟩ := ho4.caches hh4
    have HHX := Lib.hid hh4
    have HKX := Lib.hid hk4
    have HB4 := Lib.hid (below_none HB3.out (Nat.le_refl _) hg4)
    have HZ4 := Lib.hid hg4.size
    have HCb4 := Lib.hid (HCb3.out.gnone hg4 (by have := HZ1.out; have := HZ2.out; have := HZ3.out; omega))
    have HOX4 := Lib.hid ho4
    have HCX4 := Lib.hid hm4
    clear ho4 hm4 hg4 hh4 hk4
    go_wp2_with fail
    refine (implCacheFind_c w4.heap.size x4 c4 (cs) p q _ HCX4.out (by have := HZ1.out; have := HZ2.out; have := HZ3.out; have := HZ4.out; omega) HS.out HKX.out).mono ?_
    rintro e5 w5 ⟨rfl, hg5⟩
    have HB5 := Lib.hid (below_none HB4.out (Nat.le_refl _) hg5)
    have HZ5 := Lib.hid hg5.size
    have HOX5 := Lib.hid (HOX4.out.gnone hg5)
    have HCX5 := Lib.hid (HCX4.out.gnone hg5 (by have := HZ1.out; have := HZ2.out; have := HZ3.out; have := HZ4.out; omega))
    have HCb5 := Lib.hid (HCb4.out.gnone hg5 (by have := HZ1.out; have := HZ2.out; have := HZ3.out; have := HZ4.out; omega))
    clear hg5
    obtain ⟨bb0, bb1, bb2, bb3⟩ := HCb5.out.box
    have bbl := World.block_lt_of_cell? _ _ bb0
    go_wp2_with fail
    refine (eqCached_k (cfV cs p q) (cfV cs p q) _ true (decide_eq_true rfl)).mono ?_
    rintro e6 w6 ⟨rfl, hg6⟩
    replace hg6 := none_trans (World.grownBy_alloc w5 _ none) hg6
    clear bb0 bb1 bb2 bb3 bbl
    have HB6 := Lib.hid (below_none HB5.out (Nat.le_refl _) hg6)
    have HZ6 := Lib.hid hg6.size
    have HOX6 := Lib.hid (HOX5.out.gnone hg6)
    have HCX6 := Lib.hid (HCX5.out.gnone hg6 (by have := HZ1.out; have := HZ2.out; have := HZ3.out; have := HZ4.out; have := HZ5.out; omega))
    have HCb6 := Lib.hid (HCb5.out.gnone hg6 (by have := HZ1.out; have := HZ2.out; have := HZ3.out; have := HZ4.out; have := HZ5.out; omega))
    clear hg6
    go_wp2_with fail
    refine (toCachedS_c w.heap.size a cap cs _ (HM.out.below HB6.out) HB6.out.size HS.out).mono ?_
    rintro e7 w7 ⟨v7, rfl, ho7, hg7⟩
    have hh7 : ∀ g, v7.ownBlock = some g → g < w7.heap.size := fun g e => (ho7.lt g e).2
    obtain ⟨x7, c7, rfl, hk7, _, hm7⟩ := ho7.caches hh7
    have HHY := Lib.hid hh7
    have HKY := Lib.hid hk7
    have HB7 := Lib.hid (below_none HB6.out (Nat.le_refl _) hg7)
    have HZ7 := Lib.hid hg7.size
    have HOX7 := Lib.hid (HOX6.out.gnone hg7)
    have HCX7 := Lib.hid (HCX6.out.gnone hg7 (by have := HZ1.out; have := HZ2.out; have := HZ3.out; have := HZ4.out; have := HZ5.out; have := HZ6.out; omega))
    have HCb7 := Lib.hid (HCb6.out.gnone hg7 (by have := HZ1.out; have := HZ2.out; have := HZ3.out; have := HZ4.out; have := HZ5.out; have := HZ6.out; omega))
    have HOY7 := Lib.hid ho7
    have HCY7 := Lib.hid hm7
    clear ho7 hm7 hg7 hh7 hk7
    go_wp2_with fail
    refine (eqCachedS_k w4.heap.size w7.heap.size x4 x7 c4 c7 (cs) (cs) _ HCX7.out HCY7.out (by have := HZ1.out; have := HZ2.out; have := HZ3.out; have := HZ4.out; have := HZ5.out; have := HZ6.out; have := HZ7.out; omega) (by have := HZ1.out; have := HZ2.out; have := HZ3.out; have := HZ4.out; have := HZ5.out; have := HZ6.out; have := HZ7.out; omega) HS.out HS.out rfl).mono ?_
    rintro e8 w8 ⟨rfl, hg8⟩
    have HB8 := Lib.hid (below_none HB7.out (Nat.le_refl _) hg8)
    have HZ8 := Lib.hid hg8.size
    have HOX8 := Lib.hid (HOX7.out.gnone hg8)
    have HCX8 := Lib.hid (HCX7.out.gnone hg8 (by have := HZ1.out; have := HZ2.out; have := HZ3.out; have := HZ4.out; have := HZ5.out; have := HZ6.out; have := HZ7.out; omega))
    have HOY8 := Lib.hid (HOY7.out.gnone hg8)
    have HCY8 := Lib.hid (HCY7.out.gnone hg8 (by have := HZ1.out; have := HZ2.out; have := HZ3.out; have := HZ4.out; have := HZ5.out; have := HZ6.out; have := HZ7.out; omega))
    have HCb8 := Lib.hid (HCb7.out.gnone hg8 (by have := HZ1.out; have := HZ2.out; have := HZ3.out; have := HZ4.out; have := HZ5.out; have := HZ6.out; have := HZ7.out; omega))
    clear hg8
    go_wp2_with fail
    go_ret
    exact ⟨rfl, HB8.out⟩
theorem cdL_len {cs : List CachedV} (e : Int) (h : cs.length ≤ 1048576) : (cdL cs e).length ≤ 1048576 := by
  unfold cdL dropC
  split
  · exact Nat.le_trans (List.length_filter_le _ _) h
  · simp
set_option maxHeartbeats 2000000 in
theorem FnExactCacheDrop_w (a : Option Addr) (len cap : Nat) (cs : List CachedV) (e : Int) (w : World) (h : CachesL w a len cap cs) :
    Calls Try.prog 5 #[.slice a len cap, .int .i64 e] w fun e w' => e = .returned (.bool true) ∧ Below w.heap.size w w' := by
  obtain ⟨rfl, hlc, hcm, hmem⟩ := h
  have HM := Lib.hid hmem
  clear hmem
  go_enter Try.func5, Try.ntmps5
  go_wp2_with fail
  refine (szCachedS_c a cs.length cap _ (by omega)).mono ?_
  rintro e w0 ⟨r, rfl, hr, rfl⟩
  have HSm := Lib.hid hr
  clear hr
  by_cases hneg : r < 0
  · go_wp2_with fail
    go_ret
    exact ⟨rfl, Below.refl _ _⟩
  · have HS := Lib.hid (HSm.out (by omega))
    clear HSm
    have HB0 := Lib.hid (Below.refl w.heap.size w)
    go_wp2_with fail
    have HSL := Lib.hid (cdL_len e HS.out)
    refine (toCachedS_c w.heap.size a cap cs _ (HM.out.below HB0.out) HB0.out.size HS.out).mono ?_
    rintro e1 w1 ⟨v1, rfl, ho1, hg1⟩
    have hh1 : ∀ g, v1.ownBlock = some g → g < w1.heap.size := fun g e => (ho1.lt g e).2
    obtain ⟨x1, c1, rfl, hk1, _, hm1⟩ := ho1.caches hh1
    have HHT := Lib.hid hh1
    have HKT := Lib.hid hk1
    have HB1 := Lib.hid (below_none HB0.out (Nat.le_refl _) hg1)
    have HZ1 := Lib.hid hg1.size
    have HOT1 := Lib.hid ho1
    have HCT1 := Lib.hid hm1
    clear ho1 hm1 hg1 hh1 hk1
    go_wp2_with fail
    refine (specCacheDrop_c w1.heap.size x1 c1 (cs) e _ HCT1.out (by have := HZ1.out; omega) HS.out).mono ?_
    rintro e2 w2 ⟨v2, rfl, ho2, hg2⟩
    have hh2 : ∀ g, v2.ownBlock = some g → g < w2.heap.size := fun g e => (ho2.lt g e).2
    obtain ⟨x2, c2, rfl, hk2, _, hm2⟩ := ho2.caches hh2
    have HHW := Lib.hid hh2
    have HKW := Lib.hid hk2
    have HB2 := Lib.hid (below_none HB1.out (Nat.le_refl _) hg2)
    have HZ2 := Lib.hid hg2.size
    have HOT2 := Lib.hid (HOT1.out.gnone hg2)
    have HCT2 := Lib.hid (HCT1.out.gnone hg2 (by have := HZ1.out; omega))
    have HOW2 := Lib.hid ho2
    have HCW2 := Lib.hid hm2
    clear ho2 hm2 hg2 hh2 hk2
    go_wp2_with fail
    refine (toCachedS_c w.heap.size a cap cs _ (HM.out.below HB2.out) HB2.out.size HS.out).mono ?_
    rintro e3 w3 ⟨v3, rfl, ho3, hg3⟩
    have hh3 : ∀ g, v3.ownBlock = some g → g < w3.heap.size := fun g e => (ho3.lt g e).2
    obtain ⟨x3, c3, rfl, hk3, _, hm3⟩ := ho3.caches hh3
    have HHX := Lib.hid hh3
    have HKX := Lib.hid hk3
    have HB3 := Lib.hid (below_none HB2.out (Nat.le_refl _) hg3)
    have HZ3 := Lib.hid hg3.size
    have HOW3 := Lib.hid (HOW2.out.gnone hg3)
    have HCW3 := Lib.hid (HCW2.out.gnone hg3 (by have := HZ1.out; have := HZ2.out; omega))
    have HOX3 := Lib.hid ho3
    have HCX3 := Lib.hid hm3
    clear ho3 hm3 hg3 hh3 hk3
    go_wp2_with fail
    refine (implCacheDrop_c w3.heap.size x3 c3 (cs) e _ HCX3.out (by have := HZ1.out; have := HZ2.out; have := HZ3.out; omega) HS.out HKX.out).mono ?_
    rintro e4 w4 ⟨v4, rfl, ho4, hg4⟩
    have hh4 : ∀ g, v4.ownBlock = some g → g < w4.heap.size := fun g e => (ho4.lt g e).2
    obtain ⟨x4, c4, rfl, hk4, _, hm4⟩ := ho4.caches hh4
    have HHG := Lib.hid hh4
    have HKG := Lib.hid hk4
    have HB4 := Lib.hid (below_none HB3.out (Nat.le_refl _) hg4)
    have HZ4 := Lib.hid hg4.size
    have HOW4 := Lib.hid (HOW3.out.gnone hg4)
    have HCW4 := Lib.hid (HCW3.out.gnone hg4 (by have := HZ1.out; have := HZ2.out; have := HZ3.out; omega))
    have HOX4 := Lib.hid (HOX3.out.gnone hg4)
    have HCX4 := Lib.hid (HCX3.out.gnone hg4 (by have := HZ1.out; have := HZ2.out; have := HZ3.out; omega))
    have HOG4 := Lib.hid ho4
    have HCG4 := Lib.hid hm4
    clear ho4 hm4 hg4 hh4 hk4
    go_wp2_with fail
    refine (eqCachedS_k w4.heap.size w2.heap.size x4 x2 c4 c2 (cdL cs e) (cdL cs e) _ HCG4.out HCW4.out (by have := HZ1.out; have := HZ2.out; have := HZ3.out; have := HZ4.out; omega) (by have := HZ1.out; have := HZ2.out; have := HZ3.out; have := HZ4.out; omega) HSL.out HSL.out rfl).mono ?_
    rintro e5 w5 ⟨rfl, hg5⟩
    have HB5 := Lib.hid (below_none HB4.out (Nat.le_refl _) hg5)
    have HZ5 := Lib.hid hg5.size
    have HOW5 := Lib.hid (HOW4.out.gnone hg5)
    have HCW5 := Lib.hid (HCW4.out.gnone hg5 (by have := HZ1.out; have := HZ2.out; have := HZ3.out; have := HZ4.out; omega))
    have HOX5 := Lib.hid (HOX4.out.gnone hg5)
    have HCX5 := Lib.hid (HCX4.out.gnone hg5 (by have := HZ1.out; have := HZ2.out; have := HZ3.out; have := HZ4.out; omega))
    have HOG5 := Lib.hid (HOG4.out.gnone hg5)
    have HCG5 := Lib.hid (HCG4.out.gnone hg5 (by have := HZ1.out; have := HZ2.out; have := HZ3.out; have := HZ4.out; omega))
    clear hg5
    go_wp2_with fail
    refine (toCachedS_c w.heap.size a cap cs _ (HM.out.below HB5.out) HB5.out.size HS.out).mono ?_
    rintro e6 w6 ⟨v6, rfl, ho6, hg6⟩
    have hh6 : ∀ g, v6.ownBlock = some g → g < w6.heap.size := fun g e => (ho6.lt g e).2
    obtain ⟨x6, c6, rfl, hk6, _, hm6⟩ := ho6.caches hh6
    have HHY := Lib.hid hh6
    have HKY := Lib.hid hk6
    have HB6 := Lib.hid (below_none HB5.out (Nat.le_refl _) hg6)
    have HZ6 := Lib.hid hg6.size
    have HOW6 := Lib.hid (HOW5.out.gnone hg6)
    have HCW6 := Lib.hid (HCW5.out.gnone hg6 (by have := HZ1.out; have := HZ2.out; have := HZ3.out; have := HZ4.out; have := HZ5.out; omega))
    have HOX6 := Lib.hid (HOX5.out.gnone hg6)
    have HCX6 := Lib.hid (HCX5.out.gnone hg6 (by have := HZ1.out; have := HZ2.out; have := HZ3.out; have := HZ4.out; have := HZ5.out; omega))
    have HOG6 := Lib.hid (HOG5.out.gnone hg6)
    have HCG6 := Lib.hid (HCG5.out.gnone hg6 (by have := HZ1.out; have := HZ2.out; have := HZ3.out; have := HZ4.out; have := HZ5.out; omega))
    have HOY6 := Lib.hid ho6
    have HCY6 := Lib.hid hm6
    clear ho6 hm6 hg6 hh6 hk6
    go_wp2_with fail
    refine (eqCachedS_k w3.heap.size w6.heap.size x3 x6 c3 c6 (cs) (cs) _ HCX6.out HCY6.out (by have := HZ1.out; have := HZ2.out; have := HZ3.out; have := HZ4.out; have := HZ5.out; have := HZ6.out; omega) (by have := HZ1.out; have := HZ2.out; have := HZ3.out; have := HZ4.out; have := HZ5.out; have := HZ6.out; omega) HS.out HS.out rfl).mono ?_
    rintro e7 w7 ⟨rfl, hg7⟩
    have HB7 := Lib.hid (below_none HB6.out (Nat.le_refl _) hg7)
    have HZ7 := Lib.hid hg7.size
    have HOW7 := Lib.hid (HOW6.out.gnone hg7)
    have HCW7 := Lib.hid (HCW6.out.gnone hg7 (by have := HZ1.out; have := HZ2.out; have := HZ3.out; have := HZ4.out; have := HZ5.out; have := HZ6.out; omega))
    have HOX7 := Lib.hid (HOX6.out.gnone hg7)
    have HCX7 := Lib.hid (HCX6.out.gnone hg7 (by have := HZ1.out; have := HZ2.out; have := HZ3.out; have := HZ4.out; have := HZ5.out; have := HZ6.out; omega))
    have HOG7 := Lib.hid (HOG6.out.gnone hg7)
    have HCG7 := Lib.hid (HCG6.out.gnone hg7 (by have := HZ1.out; have := HZ2.out; have := HZ3.out; have := HZ4.out; have := HZ5.out; have := HZ6.out; omega))
    have HOY7 := Lib.hid (HOY6.out.gnone hg7)
    have HCY7 := Lib.hid (HCY6.out.gnone hg7 (by have := HZ1.out; have := HZ2.out; have := HZ3.out; have := HZ4.out; have := HZ5.out; have := HZ6.out; omega))
    clear hg7
    go_wp2_with fail
    refine (markCachedS_c w2.heap.size _ (cs) 1 _ HOX7.out HS.out (by omega) (by omega)).mono ?_
    rintro e8 w8 ⟨rfl, hg8, xsX, hlX, hxX, ho8⟩
    have ht8 := Turned.of_row (lo := w2.heap.size) (hi := w3.heap.size) hg8 (fun k e => ⟨(HOX7.out.lt k e).1, HHX.out k e⟩)
    have HB8 := Lib.hid (HB7.out.trans (ht8.below (by have := HZ1.out; have := HZ2.out; have := HZ3.out; have := HZ4.out; have := HZ5.out; have := HZ6.out; have := HZ7.out; omega) HB7.out.size))
    have HZ8 := Lib.hid ht8.size
    have HOW8 := Lib.hid (HOW7.out.turned ht8 HHW.out (.inl (by have := HZ1.out; have := HZ2.out; have := HZ3.out; have := HZ4.out; have := HZ5.out; have := HZ6.out; have := HZ7.out; omega)))
    obtain ⟨_, _, eW8, _, _, hmW8⟩ := HOW8.out.caches HHW.out
    simp only [Value.slice.injEq, true_and] at eW8
    obtain ⟨rfl, rfl⟩ := eW8
    have HCW8 := Lib.hid hmW8
    clear hmW8
    have HOG8 := Lib.hid (HOG7.out.turned ht8 HHG.out (.inr (by have := HZ1.out; have := HZ2.out; have := HZ3.out; have := HZ4.out; have := HZ5.out; have := HZ6.out; have := HZ7.out; omega)))
    obtain ⟨_, _, eG8, _, _, hmG8⟩ := HOG8.out.caches HHG.out
    simp only [Value.slice.injEq, true_and] at eG8
    obtain ⟨rfl, rfl⟩ := eG8
    have HCG8 := Lib.hid hmG8
    clear hmG8
    have HLX := Lib.hid hlX
    have HXX := Lib.hid hxX
    have HOX8 := Lib.hid ho8
    have hm8 := HOX8.out.caches HHX.out
    rw [HLX.out] at hm8
    obtain ⟨_, _, em8, _, _, hm8⟩ := hm8
    simp only [Value.slice.injEq, true_and] at em8
    obtain ⟨rfl, rfl⟩ := em8
    have HCX8 := Lib.hid hm8
    clear hm8 ho8 hg8 ht8 hlX hxX
    go_wp2_with fail
    refine (eqCachedS_k w4.heap.size w2.heap.size x4 x2 c4 c2 (cdL cs e) (cdL cs e) _ HCG8.out HCW8.out (by have := HZ1.out; have := HZ2.out; have := HZ3.out; have := HZ4.out; have := HZ5.out; have := HZ6.out; have := HZ7.out; have := HZ8.out; omega) (by have := HZ1.out; have := HZ2.out; have := HZ3.out; have := HZ4.out; have := HZ5.out; have := HZ6.out; have := HZ7.out; have := HZ8.out; omega) HSL.out HSL.out rfl).mono ?_
    rintro e9 w9 ⟨rfl, hg9⟩
    have HB9 := Lib.hid (below_none HB8.out (Nat.le_refl _) hg9)
    have HZ9 := Lib.hid hg9.size
    have HOW9 := Lib.hid (HOW8.out.gnone hg9)
    have HCW9 := Lib.hid (HCW8.out.gnone hg9 (by have := HZ1.out; have := HZ2.out; have := HZ3.out; have := HZ4.out; have := HZ5.out; have := HZ6.out; have := HZ7.out; have := HZ8.out; omega))
    have HOG9 := Lib.hid (HOG8.out.gnone hg9)
    have HCG9 := Lib.hid (HCG8.out.gnone hg9 (by have := HZ1.out; have := HZ2.out; have := HZ3.out; have := HZ4.out; have := HZ5.out; have := HZ6.out; have := HZ7.out; have := HZ8.out; omega))
    clear hg9
    go_wp2_with fail
    refine (markCachedS_c w3.heap.size _ (cdL cs e) 1 _ HOG9.out HSL.out (by omega) (by omega)).mono ?_
    rintro e10 w10 ⟨rfl, hg10, xsG, hlG, hxG, ho10⟩
    have ht10 := Turned.of_row (lo := w3.heap.size) (hi := w4.heap.size) hg10 (fun k e => ⟨(HOG9.out.lt k e).1, HHG.out k e⟩)
    have HB10 := Lib.hid (HB9.out.trans (ht10.below (by have := HZ1.out; have := HZ2.out; have := HZ3.out; have := HZ4.out; have := HZ5.out; have := HZ6.out; have := HZ7.out; have := HZ8.out; have := HZ9.out; omega) HB9.out.size))
    have HZ10 := Lib.hid ht10.size
    have HOW10 := Lib.hid (HOW9.out.turned ht10 HHW.out (.inl (by have := HZ1.out; have := HZ2.out; have := HZ3.out; have := HZ4.out; have := HZ5.out; have := HZ6.out; have := HZ7.out; have := HZ8.out; have := HZ9.out; omega)))
    obtain ⟨_, _, eW10, _, _, hmW10⟩ := HOW10.out.caches HHW.out
    simp only [Value.slice.injEq, true_and] at eW10
    obtain ⟨rfl, rfl⟩ := eW10
    have HCW10 := Lib.hid hmW10
    clear hmW10
    have HLG := Lib.hid hlG
    have HXG := Lib.hid hxG
    have HOG10 := Lib.hid ho10
    have hm10 := HOG10.out.caches HHG.out
    rw [HLG.out] at hm10
    obtain ⟨_, _, em10, _, _, hm10⟩ := hm10
    simp only [Value.slice.injEq, true_and] at em10
    obtain ⟨rfl, rfl⟩ := em10
    have HCG10 := Lib.hid hm10
    clear hm10 ho10 hg10 ht10 hlG hxG
    go_wp2_with fail
    refine (heldCachedS_k w4.heap.size x4 c4 xsG (cdL cs e).length 1 _ HCG10.out HLG.out HSL.out (by omega) (by omega) HXG.out).mono ?_
    rintro e w' ⟨rfl, rfl⟩
    go_wp2_with fail
    refine (toCachedS_c w.heap.size a cap cs _ (HM.out.below HB10.out) HB10.out.size HS.out).mono ?_
    rintro e11 w11 ⟨v11, rfl, ho11, hg11⟩
    have hh11 : ∀ g, v11.ownBlock = some g → g < w11.heap.size := fun g e => (ho11.lt g e).2
    obtain ⟨x11, c11, rfl, hk11, _, hm11⟩ := ho11.caches hh11
    have HHZ := Lib.hid hh11
    have HKZ := Lib.hid hk11
    have HB11 := Lib.hid (below_none HB10.out (Nat.le_refl _) hg11)
    have HZ11 := Lib.hid hg11.size
    have HOW11 := Lib.hid (HOW10.out.gnone hg11)
    have HCW11 := Lib.hid (HCW10.out.gnone hg11 (by have := HZ1.out; have := HZ2.out; have := HZ3.out; have := HZ4.out; have := HZ5.out; have := HZ6.out; have := HZ7.out; have := HZ8.out; have := HZ9.out; have := HZ10.out; omega))
    have HOG11 := Lib.hid (HOG10.out.gnone hg11)
    have HCG11 := Lib.hid (HCG10.out.gnone hg11 (by have := HZ1.out; have := HZ2.out; have := HZ3.out; have := HZ4.out; have := HZ5.out; have := HZ6.out; have := HZ7.out; have := HZ8.out; have := HZ9.out; have := HZ10.out; omega))
    have HOZ11 := Lib.hid ho11
    have HCZ11 := Lib.hid hm11
    clear ho11 hm11 hg11 hh11 hk11
    go_wp2_with fail
    refine (implCacheDrop_c w11.heap.size x11 c11 (cs) e _ HCZ11.out (by have := HZ1.out; have := HZ2.out; have := HZ3.out; have := HZ4.out; have := HZ5.out; have := HZ6.out; have := HZ7.out; have := HZ8.out; have := HZ9.out; have := HZ10.out; have := HZ11.out; omega) HS.out HKZ.out).mono ?_
    rintro e12 w12 ⟨v12, rfl, ho12, hg12⟩
    have hh12 : ∀ g, v12.ownBlock = some g → g < w12.heap.size := fun g e => (ho12.lt g e).2
    obtain ⟨x12, c12, rfl, hk12, _, hm12⟩ := ho12.caches hh12
    have HHH := Lib.hid hh12
    have HKH := Lib.hid hk12
    have HB12 := Lib.hid (below_none HB11.out (Nat.le_refl _) hg12)
    have HZ12 := Lib.hid hg12.size
    have HOW12 := Lib.hid (HOW11.out.gnone hg12)
    have HCW12 := Lib.hid (HCW11.out.gnone hg12 (by have := HZ1.out; have := HZ2.out; have := HZ3.out; have := HZ4.out; have := HZ5.out; have := HZ6.out; have := HZ7.out; have := HZ8.out; have := HZ9.out; have := HZ10.out; have := HZ11.out; omega))
    have HOG12 := Lib.hid (HOG11.out.gnone hg12)
    have HCG12 := Lib.hid (HCG11.out.gnone hg12 (by have := HZ1.out; have := HZ2.out; have := HZ3.out; have := HZ4.out; have := HZ5.out; have := HZ6.out; have := HZ7.out; have := HZ8.out; have := HZ9.out; have := HZ10.out; have := HZ11.out; omega))
    have HOZ12 := Lib.hid (HOZ11.out.gnone hg12)
    have HCZ12 := Lib.hid (HCZ11.out.gnone hg12 (by have := HZ1.out; have := HZ2.out; have := HZ3.out; have := HZ4.out; have := HZ5.out; have := HZ6.out; have := HZ7.out; have := HZ8.out; have := HZ9.out; have := HZ10.out; have := HZ11.out; omega))
    have HOH12 := Lib.hid ho12
    have HCH12 := Lib.hid hm12
    clear ho12 hm12 hg12 hh12 hk12
    go_wp2_with fail
    refine (eqCachedS_k w12.heap.size w2.heap.size x12 x2 c12 c2 (cdL cs e) (cdL cs e) _ HCH12.out HCW12.out (by have := HZ1.out; have := HZ2.out; have := HZ3.out; have := HZ4.out; have := HZ5.out; have := HZ6.out; have := HZ7.out; have := HZ8.out; have := HZ9.out; have := HZ10.out; have := HZ11.out; have := HZ12.out; omega) (by have := HZ1.out; have := HZ2.out; have := HZ3.out; have := HZ4.out; have := HZ5.out; have := HZ6.out; have := HZ7.out; have := HZ8.out; have := HZ9.out; have := HZ10.out; have := HZ11.out; have := HZ12.out; omega) HSL.out HSL.out rfl).mono ?_
    rintro e13 w13 ⟨rfl, hg13⟩
    have HB13 := Lib.hid (below_none HB12.out (Nat.le_refl _) hg13)
    have HZ13 := Lib.hid hg13.size
    have HOW13 := Lib.hid (HOW12.out.gnone hg13)
    have HCW13 := Lib.hid (HCW12.out.gnone hg13 (by have := HZ1.out; have := HZ2.out; have := HZ3.out; have := HZ4.out; have := HZ5.out; have := HZ6.out; have := HZ7.out; have := HZ8.out; have := HZ9.out; have := HZ10.out; have := HZ11.out; have := HZ12.out; omega))
    have HOG13 := Lib.hid (HOG12.out.gnone hg13)
    have HCG13 := Lib.hid (HCG12.out.gnone hg13 (by have := HZ1.out; have := HZ2.out; have := HZ3.out; have := HZ4.out; have := HZ5.out; have := HZ6.out; have := HZ7.out; have := HZ8.out; have := HZ9.out; have := HZ10.out; have := HZ11.out; have := HZ12.out; omega))
    have HOH13 := Lib.hid (HOH12.out.gnone hg13)
    have HCH13 := Lib.hid (HCH12.out.gnone hg13 (by have := HZ1.out; have := HZ2.out; have := HZ3.out; have := HZ4.out; have := HZ5.out; have := HZ6.out; have := HZ7.out; have := HZ8.out; have := HZ9.out; have := HZ10.out; have := HZ11.out; have := HZ12.out; omega))
    clear hg13
    go_wp2_with fail
    refine (heldCachedS_k w4.heap.size x4 c4 xsG (cdL cs e).length 1 _ HCG13.out HLG.out HSL.out (by omega) (by omega) HXG.out).mono ?_
    rintro e w' ⟨rfl, rfl⟩
    go_wp2_with fail
    go_ret
    exact ⟨rfl, HB13.out⟩
theorem cpL_len {cs : List CachedV} (x : CachedV) (h : cs.length ≤ 1048576) : (cpL cs x).length ≤ 1048576 := by
  unfold cpL
  split
  · rename_i h1
    exact Nat.le_trans ((ccB_iff _).1 (putC_ok h1)).1 (by omega)
  · simp
def PRow (base : Nat) (cs : List CachedV) (u : Value) (w : World) : Prop := OwnC w base u cs
theorem PRow.kept {base : Nat} {cs : List CachedV} {u : Value} {w w' : World} (h : PRow base cs u w) (hg : w.grownBy w' none) : PRow base cs u w' := OwnC.gnone h hg
def PPut (base : Nat) (cs : List CachedV) (x : CachedV) (u : Value) (w : World) : Prop := ∃ v, u = .tuple #[v, .bool (cpB cs x)] ∧ OwnC w base v (cpL cs x)
theorem PPut.kept {base : Nat} {cs : List CachedV} {x : CachedV} {u : Value} {w w' : World} (h : PPut base cs x u w) (hg : w.grownBy w' none) : PPut base cs x u w' := by
  obtain ⟨v, e, ho⟩ := h
  exact ⟨v, e, ho.gnone hg⟩
structure InvP5 (wb : World) (a : Option Addr) (cap : Nat) (cs : List CachedV) (x : CachedV) (c0 c1 c2 c3 c4 c5 c8 c9 c10 c11 c12 c13 c14 c15 c16 c17 c18 c19 c20 c29 c30 c31 c32 c33 c34 c35 c36 c37 c38 c39 c40 c41 c42 c43 c44 c45 c46 c47 c48 c49 c50 c51 c52 c53 c54 c55 c56 c57 c58 c59 c60 c61 c62 c63 c64 c65 c66 c67 c68 c69 c70 c71 c72 c73 c74 c75 c76 c77 c78 c79 c80 c81 c82 c83 c84 c85 c86 c87 c88 c89 c90 c91 c92 c93 c94 c95 c96 c97 c98 c99 c100 c101 c102 c103 : Value) (L : Array Bool) (act : Act) (w : World) : Prop where
  ex : ∃ u22 u23 u24 u25 u26 u21 u27 u28 u6 u7 : Value, act = ⟨#[c0, c1, c2, c3, c4, c5, u6, u7, c8, c9, c10, c11, c12, c13, c14, c15, c16, c17, c18, c19, c20, u21, u22, u23, u24, u25, u26, u27, u28, c29, c30, c31, c32, c33, c34, c35, c36, c37, c38, c39, c40, c41, c42, c43, c44, c45, c46, c47, c48, c49, c50, c51, c52, c53, c54, c55, c56, c57, c58, c59, c60, c61, c62, c63, c64, c65, c66, c67, c68, c69, c70, c71, c72, c73, c74, c75, c76, c77, c78, c79, c80, c81, c82, c83, c84, c85, c86, c87, c88, c89, c90, c91, c92, c93, c94, c95, c96, c97, c98, c99, c100, c101, c102, c103], []⟩ ∧ wb.grownBy w none ∧
    (L.getD 0 false = true → u22 = .slice a cs.length cap) ∧
    (L.getD 1 false = true → PRow wb.heap.size cs u23 w) ∧
    (L.getD 2 false = true → u24 = .agg #[.int .i64 x.e, .int .i64 x.p, .int .i64 x.f, .bool x.b]) ∧
    (L.getD 3 false = true → u25 = .agg #[.int .i64 x.e, .int .i64 x.p, .int .i64 x.f, .bool x.b]) ∧
    (L.getD 4 false = true → PPut wb.heap.size cs x u26 w) ∧
    (L.getD 5 false = true → PPut wb.heap.size cs x u21 w) ∧
    (L.getD 6 false = true → PRow wb.heap.size (cpL cs x) u27 w) ∧
    (L.getD 7 false = true → u28 = .bool (cpB cs x)) ∧
    (L.getD 8 false = true → PRow wb.heap.size (cpL cs x) u6 w) ∧
    (L.getD 9 false = true → u7 = .bool (cpB cs x))
structure InvP24 (wb : World) (a : Option Addr) (cap : Nat) (cs : List CachedV) (x : CachedV) (c0 c1 c2 c3 c4 c5 c6 c7 c8 c9 c10 c11 c12 c13 c16 c17 c18 c19 c20 c21 c22 c23 c24 c25 c26 c27 c28 c29 c30 c31 c32 c33 c34 c35 c36 c37 c38 c39 c40 c41 c42 c43 c44 c45 c46 c47 c48 c49 c50 c51 c52 c53 c54 c55 c56 c57 c58 c59 c60 c61 c62 c63 c64 c65 c66 c67 c68 c69 c70 c71 c72 c73 c74 c75 c76 c77 c78 c87 c88 c89 c90 c91 c92 c93 c94 c95 c96 c97 c98 c99 c100 c101 c102 c103 : Value) (L : Array Bool) (act : Act) (w : World) : Prop where
  ex : ∃ u80 u81 u82 u83 u84 u79 u85 u86 u14 u15 : Value, act = ⟨#[c0, c1, c2, c3, c4, c5, c6, c7, c8, c9, c10, c11, c12, c13, u14, u15, c16, c17, c18, c19, c20, c21, c22, c23, c24, c25, c26, c27, c28, c29, c30, c31, c32, c33, c34, c35, c36, c37, c38, c39, c40, c41, c42, c43, c44, c45, c46, c47, c48, c49, c50, c51, c52, c53, c54, c55, c56, c57, c58, c59, c60, c61, c62, c63, c64, c65, c66, c67, c68, c69, c70, c71, c72, c73, c74, c75, c76, c77, c78, u79, u80, u81, u82, u83, u84, u85, u86, c87, c88, c89, c90, c91, c92, c93, c94, c95, c96, c97, c98, c99, c100, c101, c102, c103], []⟩ ∧ wb.grownBy w none ∧
    (L.getD 0 false = true → u80 = .slice a cs.length cap) ∧
    (L.getD 1 false = true → PRow wb.heap.size cs u81 w) ∧
    (L.getD 2 false = true → u82 = .agg #[.int .i64 x.e, .int .i64 x.p, .int .i64 x.f, .bool x.b]) ∧
    (L.getD 3 false = true → u83 = .agg #[.int .i64 x.e, .int .i64 x.p, .int .i64 x.f, .bool x.b]) ∧
    (L.getD 4 false = true → PPut wb.heap.size cs x u84 w) ∧
    (L.getD 5 false = true → PPut wb.heap.size cs x u79 w) ∧
    (L.getD 6 false = true → PRow wb.heap.size (cpL cs x) u85 w) ∧
    (L.getD 7 false = true → u86 = .bool (cpB cs x)) ∧
    (L.getD 8 false = true → PRow wb.heap.size (cpL cs x) u14 w) ∧
    (L.getD 9 false = true → u15 = .bool (cpB cs x))
set_option maxHeartbeats 4000000 in
theorem FnExactCachePut_x (a : Option Addr) (len cap : Nat) (cs : List CachedV) (x : CachedV) (w : World) (h : CachesL w a len cap cs) :
    Calls Try.prog 6 #[.slice a len cap, .agg #[.int .i64 x.e, .int .i64 x.p, .int .i64 x.f, .bool x.b]] w fun e w' => e = .returned (.bool true) ∧ Below w.heap.size w w' := by
  obtain ⟨rfl, hlc, hcm, hmem⟩ := h
  have HM := Lib.hid hmem
  clear hmem
  go_enter Try.func6, Try.ntmps6
  go_wp2_with fail
  refine (szCachedS_c a cs.length cap _ (by omega)).mono ?_
  rintro e w0 ⟨r, rfl, hr, rfl⟩
  have HSm := Lib.hid hr
  clear hr
  by_cases hneg : r < 0
  · go_wp2_with fail
    go_ret
    exact ⟨rfl, (Below.refl _ _).alloc (Nat.le_refl _) _⟩
  · have HS := Lib.hid (HSm.out (by omega))
    clear HSm
    have HB0 := Lib.hid (Below.refl w.heap.size w)
    generalize hw1 : World.alloc _ _ = w1
    have hg1 : w.grownBy w1 none := by rw [← hw1]; exact World.grownBy_alloc _ _ _
    have hb1 : Caches w1 (w.heap.size + 1) (some ⟨w.heap.size, 0, none⟩) [x] := by rw [← hw1]; exact box_caches _ _ _
    have hz1 : w.heap.size + 1 ≤ w1.heap.size := by rw [← hw1]; simp
    have HB1 := Lib.hid (below_none HB0.out (Nat.le_refl _) hg1)
    have HZ1 := Lib.hid hg1.size
    have HZ1 := Lib.hid hz1
    have HCb1 := Lib.hid hb1
    clear hg1 hb1 hw1 hz1
    have HSL := Lib.hid (cpL_len x HS.out)
    go_wp2_with fail
    obtain ⟨bb0, bb1, bb2, bb3⟩ := HCb1.out.box
    have HMB := Lib.hid (HM.out.below HB1.out)
    have HBZ : Hid (w.heap.size ≤ w1.heap.size) := HB1.out.size
    refine wp_region_inv (by kernel_rfl) (InvP5 w1 a cap cs x (Value.slice a cs.length cap) (Value.agg #[Value.int IntKind.i64 x.e, Value.int IntKind.i64 x.p, Value.int IntKind.i64 x.f, Value.bool x.b]) (undef) (Value.pointer (some { block := w.heap.size, off := 0 })) (Value.bool false) (Value.int IntKind.i64 r) (undef) (undef) (undef) (undef) (undef) (undef) (undef) (undef) (Value.slice a cs.length cap) (Value.int IntKind.i64 1048576) (Value.int IntKind.i64 r) (Value.int IntKind.i64 r) (Value.bool (decide (r < 0))) (undef) (undef) (undef) (undef) (undef) (undef) (undef) (undef) (undef) (undef) (undef) (undef) (undef) (undef) (undef) (undef) (undef) (undef) (undef) (undef) (undef) (undef) (undef) (undef) (undef) (undef) (undef) (undef) (undef) (undef) (undef) (undef) (undef) (undef) (undef) (undef) (undef) (undef) (undef) (undef) (undef) (undef) (undef) (undef) (undef) (undef) (undef) (undef) (undef) (undef) (undef) (undef) (undef) (undef) (undef) (undef) (undef) (undef) (undef) (undef) (undef) (undef) (undef) (undef) (undef) (undef) (undef) (undef) (undef) (undef) (undef) (undef) (undef) (undef) (undef)) (by kernel_rfl) ?hst ?hsp ?_
    case hst => exact ⟨_, _, _, _, _, _, _, _, _, _, rfl, drewN_none _ 1, by simp, by simp, by simp, by simp, by simp, by simp, by simp, by simp, by simp, by simp⟩
    case hsp =>
      rintro L act W i hs ⟨u22, u23, u24, u25, u26, u21, u27, u28, u6, u7, rfl, hG, p0, p1, p2, p3, p4, p5, p6, p7, p8, p9⟩ hi hl hd
      have hi' : i < 10 := hi
      have hc' : i = 0 ∨ i = 1 ∨ i = 2 ∨ i = 3 ∨ i = 4 ∨ i = 5 ∨ i = 6 ∨ i = 7 ∨ i = 8 ∨ i = 9 := by omega
      rcases hc' with rfl | rfl | rfl | rfl | rfl | rfl | rfl | rfl | rfl | rfl
      · have hLf : L.getD 0 false = false := getD_false hl (by rw [hs]; decide)
        have hsz : 0 < L.size := by rw [hs]; decide
        have OL : ∀ j, j ≠ 0 → (L.setIfInBounds 0 true).getD j false = true → L.getD j false = true := fun j hj h => by rw [getD_setB _ _ _ _ hsz, if_neg hj] at h; exact h
        have ST0 := p0
        have ST1 := p1
        have ST2 := p2
        have ST3 := p3
        have ST4 := p4
        have ST5 := p5
        have ST6 := p6
        have ST7 := p7
        have ST8 := p8
        have ST9 := p9
        refine wpOp_run rfl rfl fun K hK => ?_
        clear hd hs hi hl
        go_simp
        refine hK _ _ ⟨_, _, _, _, _, _, _, _, _, _, rfl, hG, fun _ => rfl, fun h => ST1 (OL 1 (by decide) h), fun h => ST2 (OL 2 (by decide) h), fun h => ST3 (OL 3 (by decide) h), fun h => ST4 (OL 4 (by decide) h), fun h => ST5 (OL 5 (by decide) h), fun h => ST6 (OL 6 (by decide) h), fun h => ST7 (OL 7 (by decide) h), fun h => ST8 (OL 8 (by decide) h), fun h => ST9 (OL 9 (by decide) h)⟩
      · have hLf : L.getD 1 false = false := getD_false hl (by rw [hs]; decide)
        have hsz : 1 < L.size := by rw [hs]; decide
        have OL : ∀ j, j ≠ 1 → (L.setIfInBounds 1 true).getD j false = true → L.getD j false = true := fun j hj h => by rw [getD_setB _ _ _ _ hsz, if_neg hj] at h; exact h
        have d0 := hd _ rfl ⟨0, .data⟩ (by simp) rfl
        obtain rfl := p0 d0
        refine wpOp_run rfl rfl fun K hK => ?_
        clear hd hs hi hl
        go_simp
        refine (toCachedS_c w.heap.size a cap cs _ (HMB.out.gnone hG HBZ.out) (by have := HBZ.out; have := hG.size; omega) HS.out).mono ?_
        rintro e W2 ⟨v5, rfl, ho5, hgk⟩
        have ST0 := p0
        have ST1 := fun h => (p1 h).kept hgk
        have ST2 := p2
        have ST3 := p3
        have ST4 := fun h => (p4 h).kept hgk
        have ST5 := fun h => (p5 h).kept hgk
        have ST6 := fun h => (p6 h).kept hgk
        have ST7 := p7
        have ST8 := fun h => (p8 h).kept hgk
        have ST9 := p9
        refine hK _ _ ⟨_, _, _, _, _, _, _, _, _, _, rfl, none_trans hG hgk, fun h => ST0 (OL 0 (by decide) h), fun _ => ho5.mono hG.size, fun h => ST2 (OL 2 (by decide) h), fun h => ST3 (OL 3 (by decide) h), fun h => ST4 (OL 4 (by decide) h), fun h => ST5 (OL 5 (by decide) h), fun h => ST6 (OL 6 (by decide) h), fun h => ST7 (OL 7 (by decide) h), fun h => ST8 (OL 8 (by decide) h), fun h => ST9 (OL 9 (by decide) h)⟩
      · have hLf : L.getD 2 false = false := getD_false hl (by rw [hs]; decide)
        have hsz : 2 < L.size := by rw [hs]; decide
        have OL : ∀ j, j ≠ 2 → (L.setIfInBounds 2 true).getD j false = true → L.getD j false = true := fun j hj h => by rw [getD_setB _ _ _ _ hsz, if_neg hj] at h; exact h
        have k0 := hG.cell bb0 (by simp)
        have k1 := hG.cell bb1 (by simp)
        have k2 := hG.cell bb2 (by simp)
        have k3 := hG.cell bb3 (by simp)
        have ST0 := p0
        have ST1 := p1
        have ST2 := p2
        have ST3 := p3
        have ST4 := p4
        have ST5 := p5
        have ST6 := p6
        have ST7 := p7
        have ST8 := p8
        have ST9 := p9
        refine wpOp_run rfl rfl fun K hK => ?_
        clear hd hs hi hl
        go_simp
        refine hK _ _ ⟨_, _, _, _, _, _, _, _, _, _, rfl, hG, fun h => ST0 (OL 0 (by decide) h), fun h => ST1 (OL 1 (by decide) h), fun _ => rfl, fun h => ST3 (OL 3 (by decide) h), fun h => ST4 (OL 4 (by decide) h), fun h => ST5 (OL 5 (by decide) h), fun h => ST6 (OL 6 (by decide) h), fun h => ST7 (OL 7 (by decide) h), fun h => ST8 (OL 8 (by decide) h), fun h => ST9 (OL 9 (by decide) h)⟩
      · have hLf : L.getD 3 false = false := getD_false hl (by rw [hs]; decide)
        have hsz : 3 < L.size := by rw [hs]; decide
        have OL : ∀ j, j ≠ 3 → (L.setIfInBounds 3 true).getD j false = true → L.getD j false = true := fun j hj h => by rw [getD_setB _ _ _ _ hsz, if_neg hj] at h; exact h
        have d2 := hd _ rfl ⟨2, .data⟩ (by simp) rfl
        obtain rfl := p2 d2
        refine wpOp_run rfl rfl fun K hK => ?_
        clear hd hs hi hl
        go_simp
        refine (toCached_c _ _ _ _ _).mono ?_
        rintro e W2 ⟨rfl, hgk⟩
        have ST0 := p0
        have ST1 := fun h => (p1 h).kept hgk
        have ST2 := p2
        have ST3 := p3
        have ST4 := fun h => (p4 h).kept hgk
        have ST5 := fun h => (p5 h).kept hgk
        have ST6 := fun h => (p6 h).kept hgk
        have ST7 := p7
        have ST8 := fun h => (p8 h).kept hgk
        have ST9 := p9
        refine hK _ _ ⟨_, _, _, _, _, _, _, _, _, _, rfl, none_trans hG hgk, fun h => ST0 (OL 0 (by decide) h), fun h => ST1 (OL 1 (by decide) h), fun h => ST2 (OL 2 (by decide) h), fun _ => rfl, fun h => ST4 (OL 4 (by decide) h), fun h => ST5 (OL 5 (by decide) h), fun h => ST6 (OL 6 (by decide) h), fun h => ST7 (OL 7 (by decide) h), fun h => ST8 (OL 8 (by decide) h), fun h => ST9 (OL 9 (by decide) h)⟩
      · have hLf : L.getD 4 false = false := getD_false hl (by rw [hs]; decide)
        have hsz : 4 < L.size := by rw [hs]; decide
        have OL : ∀ j, j ≠ 4 → (L.setIfInBounds 4 true).getD j false = true → L.getD j false = true := fun j hj h => by rw [getD_setB _ _ _ _ hsz, if_neg hj] at h; exact h
        have d1 := hd _ rfl ⟨1, .data⟩ (by simp) rfl
        have d3 := hd _ rfl ⟨3, .data⟩ (by simp) rfl
        obtain rfl := p3 d3
        have o1 := p1 d1
        obtain ⟨a5, c5, e5, hk5, -, hm5⟩ := OwnC.caches (hi := W.heap.size) o1 (fun g e => (OwnC.lt o1 g e).2)
        subst e5
        refine wpOp_run rfl rfl fun K hK => ?_
        clear hd hs hi hl
        go_simp
        refine (specCachePut_c W.heap.size a5 c5 cs x _ hm5 (Nat.le_refl _) HS.out).mono ?_
        rintro e W2 ⟨v5, rfl, ho5, hgk⟩
        have ST0 := p0
        have ST1 := fun h => (p1 h).kept hgk
        have ST2 := p2
        have ST3 := p3
        have ST4 := fun h => (p4 h).kept hgk
        have ST5 := fun h => (p5 h).kept hgk
        have ST6 := fun h => (p6 h).kept hgk
        have ST7 := p7
        have ST8 := fun h => (p8 h).kept hgk
        have ST9 := p9
        refine hK _ _ ⟨_, _, _, _, _, _, _, _, _, _, rfl, none_trans hG hgk, fun h => ST0 (OL 0 (by decide) h), fun h => ST1 (OL 1 (by decide) h), fun h => ST2 (OL 2 (by decide) h), fun h => ST3 (OL 3 (by decide) h), fun _ => ⟨v5, rfl, ho5.mono hG.size⟩, fun h => ST5 (OL 5 (by decide) h), fun h => ST6 (OL 6 (by decide) h), fun h => ST7 (OL 7 (by decide) h), fun h => ST8 (OL 8 (by decide) h), fun h => ST9 (OL 9 (by decide) h)⟩
      · have hLf : L.getD 5 false = false := getD_false hl (by rw [hs]; decide)
        have hsz : 5 < L.size := by rw [hs]; decide
        have OL : ∀ j, j ≠ 5 → (L.setIfInBounds 5 true).getD j false = true → L.getD j false = true := fun j hj h => by rw [getD_setB _ _ _ _ hsz, if_neg hj] at h; exact h
        have d4 := hd _ rfl ⟨4, .data⟩ (by simp) rfl
        have ST0 := p0
        have ST1 := p1
        have ST2 := p2
        have ST3 := p3
        have ST4 := p4
        have ST5 := p5
        have ST6 := p6
        have ST7 := p7
        have ST8 := p8
        have ST9 := p9
        refine wpOp_run rfl rfl fun K hK => ?_
        clear hd hs hi hl
        go_simp
        refine hK _ _ ⟨_, _, _, _, _, _, _, _, _, _, rfl, hG, fun h => ST0 (OL 0 (by decide) h), fun h => ST1 (OL 1 (by decide) h), fun h => ST2 (OL 2 (by decide) h), fun h => ST3 (OL 3 (by decide) h), fun h => ST4 (OL 4 (by decide) h), fun _ => p4 d4, fun h => ST6 (OL 6 (by decide) h), fun h => ST7 (OL 7 (by decide) h), fun h => ST8 (OL 8 (by decide) h), fun h => ST9 (OL 9 (by decide) h)⟩
      · have hLf : L.getD 6 false = false := getD_false hl (by rw [hs]; decide)
        have hsz : 6 < L.size := by rw [hs]; decide
        have OL : ∀ j, j ≠ 6 → (L.setIfInBounds 6 true).getD j false = true → L.getD j false = true := fun j hj h => by rw [getD_setB _ _ _ _ hsz, if_neg hj] at h; exact h
        have d5 := hd _ rfl ⟨5, .data⟩ (by simp) rfl
        obtain ⟨v6, rfl, ho6⟩ := p5 d5
        have ST0 := p0
        have ST1 := p1
        have ST2 := p2
        have ST3 := p3
        have ST4 := p4
        have ST5 := p5
        have ST6 := p6
        have ST7 := p7
        have ST8 := p8
        have ST9 := p9
        refine wpOp_run rfl rfl fun K hK => ?_
        clear hd hs hi hl
        go_simp
        refine hK _ _ ⟨_, _, _, _, _, _, _, _, _, _, rfl, hG, fun h => ST0 (OL 0 (by decide) h), fun h => ST1 (OL 1 (by decide) h), fun h => ST2 (OL 2 (by decide) h), fun h => ST3 (OL 3 (by decide) h), fun h => ST4 (OL 4 (by decide) h), fun h => ST5 (OL 5 (by decide) h), fun _ => ho6, fun h => ST7 (OL 7 (by decide) h), fun h => ST8 (OL 8 (by decide) h), fun h => ST9 (OL 9 (by decide) h)⟩
      · have hLf : L.getD 7 false = false := getD_false hl (by rw [hs]; decide)
        have hsz : 7 < L.size := by rw [hs]; decide
        have OL : ∀ j, j ≠ 7 → (L.setIfInBounds 7 true).getD j false = true → L.getD j false = true := fun j hj h => by rw [getD_setB _ _ _ _ hsz, if_neg hj] at h; exact h
        have d5 := hd _ rfl ⟨5, .data⟩ (by simp) rfl
        obtain ⟨v6, rfl, ho6⟩ := p5 d5
        have ST0 := p0
        have ST1 := p1
        have ST2 := p2
        have ST3 := p3
        have ST4 := p4
        have ST5 := p5
        have ST6 := p6
        have ST7 := p7
        have ST8 := p8
        have ST9 := p9
        refine wpOp_run rfl rfl fun K hK => ?_
        clear hd hs hi hl
        go_simp
        refine hK _ _ ⟨_, _, _, _, _, _, _, _, _, _, rfl, hG, fun h => ST0 (OL 0 (by decide) h), fun h => ST1 (OL 1 (by decide) h), fun h => ST2 (OL 2 (by decide) h), fun h => ST3 (OL 3 (by decide) h), fun h => ST4 (OL 4 (by decide) h), fun h => ST5 (OL 5 (by decide) h), fun h => ST6 (OL 6 (by decide) h), fun _ => rfl, fun h => ST8 (OL 8 (by decide) h), fun h => ST9 (OL 9 (by decide) h)⟩
      · have hLf : L.getD 8 false = false := getD_false hl (by rw [hs]; decide)
        have hsz : 8 < L.size := by rw [hs]; decide
        have OL : ∀ j, j ≠ 8 → (L.setIfInBounds 8 true).getD j false = true → L.getD j false = true := fun j hj h => by rw [getD_setB _ _ _ _ hsz, if_neg hj] at h; exact h
        have d6 := hd _ rfl ⟨6, .data⟩ (by simp) rfl
        have ST0 := p0
        have ST1 := p1
        have ST2 := p2
        have ST3 := p3
        have ST4 := p4
        have ST5 := p5
        have ST6 := p6
        have ST7 := p7
        have ST8 := p8
        have ST9 := p9
        refine wpOp_run rfl rfl fun K hK => ?_
        clear hd hs hi hl
        go_simp
        refine hK _ _ ⟨_, _, _, _, _, _, _, _, _, _, rfl, hG, fun h => ST0 (OL 0 (by decide) h), fun h => ST1 (OL 1 (by decide) h), fun h => ST2 (OL 2 (by decide) h), fun h => ST3 (OL 3 (by decide) h), fun h => ST4 (OL 4 (by decide) h), fun h => ST5 (OL 5 (by decide) h), fun h => ST6 (OL 6 (by decide) h), fun h => ST7 (OL 7 (by decide) h), fun _ => p6 d6, fun h => ST9 (OL 9 (by decide) h)⟩
      · have hLf : L.getD 9 false = false := getD_false hl (by rw [hs]; decide)
        have hsz : 9 < L.size := by rw [hs]; decide
        have OL : ∀ j, j ≠ 9 → (L.setIfInBounds 9 true).getD j false = true → L.getD j false = true := fun j hj h => by rw [getD_setB _ _ _ _ hsz, if_neg hj] at h; exact h
        have d7 := hd _ rfl ⟨7, .data⟩ (by simp) rfl
        obtain rfl := p7 d7
        have ST0 := p0
        have ST1 := p1
        have ST2 := p2
        have ST3 := p3
        have ST4 := p4
        have ST5 := p5
        have ST6 := p6
        have ST7 := p7
        have ST8 := p8
        have ST9 := p9
        refine wpOp_run rfl rfl fun K hK => ?_
        clear hd hs hi hl
        go_simp
        refine hK _ _ ⟨_, _, _, _, _, _, _, _, _, _, rfl, hG, fun h => ST0 (OL 0 (by decide) h), fun h => ST1 (OL 1 (by decide) h), fun h => ST2 (OL 2 (by decide) h), fun h => ST3 (OL 3 (by decide) h), fun h => ST4 (OL 4 (by decide) h), fun h => ST5 (OL 5 (by decide) h), fun h => ST6 (OL 6 (by decide) h), fun h => ST7 (OL 7 (by decide) h), fun h => ST8 (OL 8 (by decide) h), fun _ => rfl⟩
    rintro L act w2 ⟨u22, u23, u24, u25, u26, u21, u27, u28, u6, u7, rfl, hg2, p0, p1, p2, p3, p4, p5, p6, p7, p8, p9⟩ hall
    have ho2 : OwnC w2 w1.heap.size u6 (cpL cs x) := p8 (hall 8 (by decide))
    have ea := p9 (hall 9 (by decide))
    subst ea
    clear hall p0 p1 p2 p3 p4 p5 p6 p7 p8 p9 HMB HBZ bb0 bb1 bb2 bb3
    have hh2 : ∀ g, u6.ownBlock = some g → g < w2.heap.size := fun g e => (ho2.lt g e).2
    obtain ⟨x2, c2, rfl, hk2, _, hm2⟩ := ho2.caches hh2
    have HHW := Lib.hid hh2
    have HKW := Lib.hid hk2
    have HB2 := Lib.hid (below_none HB1.out (Nat.le_refl _) hg2)
    have HZ2 := Lib.hid hg2.size
    have HCb2 := Lib.hid (HCb1.out.gnone hg2 (by have := HZ1.out; omega))
    have HOW2 := Lib.hid ho2
    have HCW2 := Lib.hid hm2
    clear ho2 hm2 hg2 hh2 hk2
    go_wp2_with fail
    refine (toCachedS_c w.heap.size a cap cs _ (HM.out.below HB2.out) HB2.out.size HS.out).mono ?_
    rintro e3 w3 ⟨v3, rfl, ho3, hg3⟩
    have hh3 : ∀ g, v3.ownBlock = some g → g < w3.heap.size := fun g e => (ho3.lt g e).2
    obtain ⟨x3, c3, rfl, hk3, _, hm3⟩ := ho3.caches hh3
    have HHX := Lib.hid hh3
    have HKX := Lib.hid hk3
    have HB3 := Lib.hid (below_none HB2.out (Nat.le_refl _) hg3)
    have HZ3 := Lib.hid hg3.size
    have HOW3 := Lib.hid (HOW2.out.gnone hg3)
    have HCW3 := Lib.hid (HCW2.out.gnone hg3 (by have := HZ1.out; have := HZ2.out; omega))
    have HCb3 := Lib.hid (HCb2.out.gnone hg3 (by have := HZ1.out; have := HZ2.out; omega))
    have HOX3 := Lib.hid ho3
    have HCX3 := Lib.hid hm3
    clear ho3 hm3 hg3 hh3 hk3
    obtain ⟨bb0, bb1, bb2, bb3⟩ := HCb3.out.box
    have bbl := World.block_lt_of_cell? _ _ bb0
    go_wp2_with fail
    refine (toCached_c _ _ _ _ _).mono ?_
    rintro e4 w4 ⟨rfl, hg4⟩
    clear bb0 bb1 bb2 bb3 bbl
    have HB4 := Lib.hid (below_none HB3.out (Nat.le_refl _) hg4)
    have HZ4 := Lib.hid hg4.size
    have HOW4 := Lib.hid (HOW3.out.gnone hg4)
    have HCW4 := Lib.hid (HCW3.out.gnone hg4 (by have := HZ1.out; have := HZ2.out; have := HZ3.out; omega))
    have HOX4 := Lib.hid (HOX3.out.gnone hg4)
    have HCX4 := Lib.hid (HCX3.out.gnone hg4 (by have := HZ1.out; have := HZ2.out; have := HZ3.out; omega))
    have HCb4 := Lib.hid (HCb3.out.gnone hg4 (by have := HZ1.out; have := HZ2.out; have := HZ3.out; omega))
    clear hg4
    go_wp2_with fail
    refine (implCachePut_c w3.heap.size x3 c3 cs x _ HCX4.out (by have := HZ1.out; have := HZ2.out; have := HZ3.out; have := HZ4.out; omega) HS.out HKX.out).mono ?_
    rintro e5 w5 ⟨v5, rfl, ho5, hg5⟩
    have hh5 : ∀ g, v5.ownBlock = some g → g < w5.heap.size := fun g e => (ho5.lt g e).2
    obtain ⟨x5, c5, rfl, hk5, _, hm5⟩ := ho5.caches hh5
    have HHG := Lib.hid hh5
    have HKG := Lib.hid hk5
    have HB5 := Lib.hid (below_none HB4.out (Nat.le_refl _) hg5)
    have HZ5 := Lib.hid hg5.size
    have HOW5 := Lib.hid (HOW4.out.gnone hg5)
    have HCW5 := Lib.hid (HCW4.out.gnone hg5 (by have := HZ1.out; have := HZ2.out; have := HZ3.out; have := HZ4.out; omega))
    have HOX5 := Lib.hid (HOX4.out.gnone hg5)
    have HCX5 := Lib.hid (HCX4.out.gnone hg5 (by have := HZ1.out; have := HZ2.out; have := HZ3.out; have := HZ4.out; omega))
    have HCb5 := Lib.hid (HCb4.out.gnone hg5 (by have := HZ1.out; have := HZ2.out; have := HZ3.out; have := HZ4.out; omega))
    have HOG5 := Lib.hid ho5
    have HCG5 := Lib.hid hm5
    clear ho5 hm5 hg5 hh5 hk5
    go_wp2_with fail
    refine (eqCachedS_k w5.heap.size w2.heap.size x5 x2 c5 c2 (cpL cs x) (cpL cs x) _ HCG5.out HCW5.out (by have := HZ1.out; have := HZ2.out; have := HZ3.out; have := HZ4.out; have := HZ5.out; omega) (by have := HZ1.out; have := HZ2.out; have := HZ3.out; have := HZ4.out; have := HZ5.out; omega) HSL.out HSL.out rfl).mono ?_
    rintro e6 w6 ⟨rfl, hg6⟩
    have HB6 := Lib.hid (below_none HB5.out (Nat.le_refl _) hg6)
    have HZ6 := Lib.hid hg6.size
    have HOW6 := Lib.hid (HOW5.out.gnone hg6)
    have HCW6 := Lib.hid (HCW5.out.gnone hg6 (by have := HZ1.out; have := HZ2.out; have := HZ3.out; have := HZ4.out; have := HZ5.out; omega))
    have HOX6 := Lib.hid (HOX5.out.gnone hg6)
    have HCX6 := Lib.hid (HCX5.out.gnone hg6 (by have := HZ1.out; have := HZ2.out; have := HZ3.out; have := HZ4.out; have := HZ5.out; omega))
    have HOG6 := Lib.hid (HOG5.out.gnone hg6)
    have HCG6 := Lib.hid (HCG5.out.gnone hg6 (by have := HZ1.out; have := HZ2.out; have := HZ3.out; have := HZ4.out; have := HZ5.out; omega))
    have HCb6 := Lib.hid (HCb5.out.gnone hg6 (by have := HZ1.out; have := HZ2.out; have := HZ3.out; have := HZ4.out; have := HZ5.out; omega))
    clear hg6
    go_wp2_with fail
    refine (toCachedS_c w.heap.size a cap cs _ (HM.out.below HB6.out) HB6.out.size HS.out).mono ?_
    rintro e7 w7 ⟨v7, rfl, ho7, hg7⟩
    have hh7 : ∀ g, v7.ownBlock = some g → g < w7.heap.size := fun g e => (ho7.lt g e).2
    obtain ⟨x7, c7, rfl, hk7, _, hm7⟩ := ho7.caches hh7
    have HHY := Lib.hid hh7
    have HKY := Lib.hid hk7
    have HB7 := Lib.hid (below_none HB6.out (Nat.le_refl _) hg7)
    have HZ7 := Lib.hid hg7.size
    have HOW7 := Lib.hid (HOW6.out.gnone hg7)
    have HCW7 := Lib.hid (HCW6.out.gnone hg7 (by have := HZ1.out; have := HZ2.out; have := HZ3.out; have := HZ4.out; have := HZ5.out; have := HZ6.out; omega))
    have HOX7 := Lib.hid (HOX6.out.gnone hg7)
    have HCX7 := Lib.hid (HCX6.out.gnone hg7 (by have := HZ1.out; have := HZ2.out; have := HZ3.out; have := HZ4.out; have := HZ5.out; have := HZ6.out; omega))
    have HOG7 := Lib.hid (HOG6.out.gnone hg7)
    have HCG7 := Lib.hid (HCG6.out.gnone hg7 (by have := HZ1.out; have := HZ2.out; have := HZ3.out; have := HZ4.out; have := HZ5.out; have := HZ6.out; omega))
    have HCb7 := Lib.hid (HCb6.out.gnone hg7 (by have := HZ1.out; have := HZ2.out; have := HZ3.out; have := HZ4.out; have := HZ5.out; have := HZ6.out; omega))
    have HOY7 := Lib.hid ho7
    have HCY7 := Lib.hid hm7
    clear ho7 hm7 hg7 hh7 hk7
    go_wp2_with fail
    refine (eqCachedS_k w3.heap.size w7.heap.size x3 x7 c3 c7 (cs) (cs) _ HCX7.out HCY7.out (by have := HZ1.out; have := HZ2.out; have := HZ3.out; have := HZ4.out; have := HZ5.out; have := HZ6.out; have := HZ7.out; omega) (by have := HZ1.out; have := HZ2.out; have := HZ3.out; have := HZ4.out; have := HZ5.out; have := HZ6.out; have := HZ7.out; omega) HS.out HS.out rfl).mono ?_
    rintro e8 w8 ⟨rfl, hg8⟩
    have HB8 := Lib.hid (below_none HB7.out (Nat.le_refl _) hg8)
    have HZ8 := Lib.hid hg8.size
    have HOW8 := Lib.hid (HOW7.out.gnone hg8)
    have HCW8 := Lib.hid (HCW7.out.gnone hg8 (by have := HZ1.out; have := HZ2.out; have := HZ3.out; have := HZ4.out; have := HZ5.out; have := HZ6.out; have := HZ7.out; omega))
    have HOX8 := Lib.hid (HOX7.out.gnone hg8)
    have HCX8 := Lib.hid (HCX7.out.gnone hg8 (by have := HZ1.out; have := HZ2.out; have := HZ3.out; have := HZ4.out; have := HZ5.out; have := HZ6.out; have := HZ7.out; omega))
    have HOG8 := Lib.hid (HOG7.out.gnone hg8)
    have HCG8 := Lib.hid (HCG7.out.gnone hg8 (by have := HZ1.out; have := HZ2.out; have := HZ3.out; have := HZ4.out; have := HZ5.out; have := HZ6.out; have := HZ7.out; omega))
    have HOY8 := Lib.hid (HOY7.out.gnone hg8)
    have HCY8 := Lib.hid (HCY7.out.gnone hg8 (by have := HZ1.out; have := HZ2.out; have := HZ3.out; have := HZ4.out; have := HZ5.out; have := HZ6.out; have := HZ7.out; omega))
    have HCb8 := Lib.hid (HCb7.out.gnone hg8 (by have := HZ1.out; have := HZ2.out; have := HZ3.out; have := HZ4.out; have := HZ5.out; have := HZ6.out; have := HZ7.out; omega))
    clear hg8
    go_wp2_with fail
    refine (markCachedS_c w2.heap.size _ (cs) 1 _ HOX8.out HS.out (by omega) (by omega)).mono ?_
    rintro e9 w9 ⟨rfl, hg9, xsX, hlX, hxX, ho9⟩
    have ht9 := Turned.of_row (lo := w2.heap.size) (hi := w3.heap.size) hg9 (fun k e => ⟨(HOX8.out.lt k e).1, HHX.out k e⟩)
    have HB9 := Lib.hid (HB8.out.trans (ht9.below (by have := HZ1.out; have := HZ2.out; have := HZ3.out; have := HZ4.out; have := HZ5.out; have := HZ6.out; have := HZ7.out; have := HZ8.out; omega) HB8.out.size))
    have HZ9 := Lib.hid ht9.size
    have HOW9 := Lib.hid (HOW8.out.turned ht9 HHW.out (.inl (by have := HZ1.out; have := HZ2.out; have := HZ3.out; have := HZ4.out; have := HZ5.out; have := HZ6.out; have := HZ7.out; have := HZ8.out; omega)))
    obtain ⟨_, _, eW9, _, _, hmW9⟩ := HOW9.out.caches HHW.out
    simp only [Value.slice.injEq, true_and] at eW9
    obtain ⟨rfl, rfl⟩ := eW9
    have HCW9 := Lib.hid hmW9
    clear hmW9
    have HOG9 := Lib.hid (HOG8.out.turned ht9 HHG.out (.inr (by have := HZ1.out; have := HZ2.out; have := HZ3.out; have := HZ4.out; have := HZ5.out; have := HZ6.out; have := HZ7.out; have := HZ8.out; omega)))
    obtain ⟨_, _, eG9, _, _, hmG9⟩ := HOG9.out.caches HHG.out
    simp only [Value.slice.injEq, true_and] at eG9
    obtain ⟨rfl, rfl⟩ := eG9
    have HCG9 := Lib.hid hmG9
    clear hmG9
    have HCb9 := Lib.hid (HCb8.out.turned ht9 (by have := HZ1.out; have := HZ2.out; have := HZ3.out; have := HZ4.out; have := HZ5.out; have := HZ6.out; have := HZ7.out; have := HZ8.out; omega) (by have := HZ1.out; have := HZ2.out; have := HZ3.out; have := HZ4.out; have := HZ5.out; have := HZ6.out; have := HZ7.out; have := HZ8.out; omega))
    have HLX := Lib.hid hlX
    have HXX := Lib.hid hxX
    have HOX9 := Lib.hid ho9
    have hm9 := HOX9.out.caches HHX.out
    rw [HLX.out] at hm9
    obtain ⟨_, _, em9, _, _, hm9⟩ := hm9
    simp only [Value.slice.injEq, true_and] at em9
    obtain ⟨rfl, rfl⟩ := em9
    have HCX9 := Lib.hid hm9
    clear hm9 ho9 hg9 ht9 hlX hxX
    go_wp2_with fail
    refine (eqCachedS_k w5.heap.size w2.heap.size x5 x2 c5 c2 (cpL cs x) (cpL cs x) _ HCG9.out HCW9.out (by have := HZ1.out; have := HZ2.out; have := HZ3.out; have := HZ4.out; have := HZ5.out; have := HZ6.out; have := HZ7.out; have := HZ8.out; have := HZ9.out; omega) (by have := HZ1.out; have := HZ2.out; have := HZ3.out; have := HZ4.out; have := HZ5.out; have := HZ6.out; have := HZ7.out; have := HZ8.out; have := HZ9.out; omega) HSL.out HSL.out rfl).mono ?_
    rintro e10 w10 ⟨rfl, hg10⟩
    have HB10 := Lib.hid (below_none HB9.out (Nat.le_refl _) hg10)
    have HZ10 := Lib.hid hg10.size
    have HOW10 := Lib.hid (HOW9.out.gnone hg10)
    have HCW10 := Lib.hid (HCW9.out.gnone hg10 (by have := HZ1.out; have := HZ2.out; have := HZ3.out; have := HZ4.out; have := HZ5.out; have := HZ6.out; have := HZ7.out; have := HZ8.out; have := HZ9.out; omega))
    have HOG10 := Lib.hid (HOG9.out.gnone hg10)
    have HCG10 := Lib.hid (HCG9.out.gnone hg10 (by have := HZ1.out; have := HZ2.out; have := HZ3.out; have := HZ4.out; have := HZ5.out; have := HZ6.out; have := HZ7.out; have := HZ8.out; have := HZ9.out; omega))
    have HCb10 := Lib.hid (HCb9.out.gnone hg10 (by have := HZ1.out; have := HZ2.out; have := HZ3.out; have := HZ4.out; have := HZ5.out; have := HZ6.out; have := HZ7.out; have := HZ8.out; have := HZ9.out; omega))
    clear hg10
    go_wp2_with fail
    refine (markCachedS_c w4.heap.size _ (cpL cs x) 1 _ HOG10.out HSL.out (by omega) (by omega)).mono ?_
    rintro e11 w11 ⟨rfl, hg11, xsG, hlG, hxG, ho11⟩
    have ht11 := Turned.of_row (lo := w4.heap.size) (hi := w5.heap.size) hg11 (fun k e => ⟨(HOG10.out.lt k e).1, HHG.out k e⟩)
    have HB11 := Lib.hid (HB10.out.trans (ht11.below (by have := HZ1.out; have := HZ2.out; have := HZ3.out; have := HZ4.out; have := HZ5.out; have := HZ6.out; have := HZ7.out; have := HZ8.out; have := HZ9.out; have := HZ10.out; omega) HB10.out.size))
    have HZ11 := Lib.hid ht11.size
    have HOW11 := Lib.hid (HOW10.out.turned ht11 HHW.out (.inl (by have := HZ1.out; have := HZ2.out; have := HZ3.out; have := HZ4.out; have := HZ5.out; have := HZ6.out; have := HZ7.out; have := HZ8.out; have := HZ9.out; have := HZ10.out; omega)))
    obtain ⟨_, _, eW11, _, _, hmW11⟩ := HOW11.out.caches HHW.out
    simp only [Value.slice.injEq, true_and] at eW11
    obtain ⟨rfl, rfl⟩ := eW11
    have HCW11 := Lib.hid hmW11
    clear hmW11
    have HCb11 := Lib.hid (HCb10.out.turned ht11 (by have := HZ1.out; have := HZ2.out; have := HZ3.out; have := HZ4.out; have := HZ5.out; have := HZ6.out; have := HZ7.out; have := HZ8.out; have := HZ9.out; have := HZ10.out; omega) (by have := HZ1.out; have := HZ2.out; have := HZ3.out; have := HZ4.out; have := HZ5.out; have := HZ6.out; have := HZ7.out; have := HZ8.out; have := HZ9.out; have := HZ10.out; omega))
    have HLG := Lib.hid hlG
    have HXG := Lib.hid hxG
    have HOG11 := Lib.hid ho11
    have hm11 := HOG11.out.caches HHG.out
    rw [HLG.out] at hm11
    obtain ⟨_, _, em11, _, _, hm11⟩ := hm11
    simp only [Value.slice.injEq, true_and] at em11
    obtain ⟨rfl, rfl⟩ := em11
    have HCG11 := Lib.hid hm11
    clear hm11 ho11 hg11 ht11 hlG hxG
    go_wp2_with fail
    refine (heldCachedS_k w5.heap.size x5 c5 xsG (cpL cs x).length 1 _ HCG11.out HLG.out HSL.out (by omega) (by omega) HXG.out).mono ?_
    rintro e w' ⟨rfl, rfl⟩
    go_wp2_with fail
    obtain ⟨bb0, bb1, bb2, bb3⟩ := HCb11.out.box
    have HMB := Lib.hid (HM.out.below HB11.out)
    have HBZ : Hid (w.heap.size ≤ w11.heap.size) := HB11.out.size
    refine wp_region_inv (by kernel_rfl) (InvP24 w11 a cap cs x (Value.slice a cs.length cap) (Value.agg #[Value.int IntKind.i64 x.e, Value.int IntKind.i64 x.p, Value.int IntKind.i64 x.f, Value.bool x.b]) (undef) (Value.pointer (some { block := w.heap.size, off := 0 })) (Value.bool false) (Value.int IntKind.i64 r) (Value.slice x2 (cpL cs x).length c2) (Value.bool (cpB cs x)) (Value.slice x3 cs.length c3) (Value.slice x5 (cpL cs x).length c5) (Value.bool (cpB cs x)) (Value.int IntKind.i64 (1 + 4 * ↑cs.length)) (Value.int IntKind.i64 (1 + 4 * ↑(cpL cs x).length)) (Value.int IntKind.i64 (1 + 4 * ↑(cpL cs x).length)) (Value.slice a cs.length cap) (Value.int IntKind.i64 1048576) (Value.int IntKind.i64 r) (Value.int IntKind.i64 r) (Value.bool (decide (r < 0))) (u21) (u22) (u23) (u24) (u25) (u26) (u27) (u28) (Value.slice a cs.length cap) (Value.slice x3 cs.length c3) (Value.tuple #[Value.slice x5 (cpL cs x).length c5, Value.bool (cpB cs x)]) (Value.slice x3 cs.length c3) (Value.agg #[Value.int IntKind.i64 x.e, Value.int IntKind.i64 x.p, Value.int IntKind.i64 x.f, Value.bool x.b]) (Value.agg #[Value.int IntKind.i64 x.e, Value.int IntKind.i64 x.p, Value.int IntKind.i64 x.f, Value.bool x.b]) (Value.tuple #[Value.slice x5 (cpL cs x).length c5, Value.bool (cpB cs x)]) (Value.slice x5 (cpL cs x).length c5) (Value.bool (cpB cs x)) (Value.slice x5 (cpL cs x).length c5) (Value.slice x2 (cpL cs x).length c2) (Value.bool true) (Value.bool false) (Value.bool false) (Value.bool (cpB cs x)) (Value.bool (cpB cs x)) (Value.bool false) (Value.bool false) (Value.slice x3 cs.length c3) (Value.slice a cs.length cap) (Value.slice x7 cs.length c7) (Value.bool true) (Value.bool false) (Value.slice x3 cs.length c3) (Value.int IntKind.i64 1) (Value.int IntKind.i64 (1 + 4 * ↑cs.length)) (Value.int IntKind.i64 (1 + 4 * ↑cs.length)) (Value.bool (decide (1 + 4 * ↑cs.length < 0))) (Value.bool (decide (1 + 4 * ↑cs.length < 0))) (Value.slice x5 (cpL cs x).length c5) (Value.slice x2 (cpL cs x).length c2) (Value.bool true) (Value.bool false) (Value.bool (decide (1 + 4 * ↑cs.length < 0))) (Value.bool (decide (1 + 4 * ↑cs.length < 0))) (Value.bool (cpB cs x)) (Value.bool (cpB cs x)) (Value.bool false) (Value.bool (decide (1 + 4 * ↑cs.length < 0))) (Value.slice x5 (cpL cs x).length c5) (Value.int IntKind.i64 1) (Value.int IntKind.i64 (1 + 4 * ↑(cpL cs x).length)) (Value.slice x5 (cpL cs x).length c5) (Value.int IntKind.i64 1) (Value.int IntKind.i64 (1 + 4 * ↑(cpL cs x).length)) (Value.int IntKind.i64 (1 + 4 * ↑(cpL cs x).length)) (Value.bool (decide (1 + 4 * ↑(cpL cs x).length < 0))) (Value.int IntKind.i64 (1 + 4 * ↑(cpL cs x).length)) (Value.int IntKind.i64 (1 + 4 * ↑(cpL cs x).length)) (Value.bool false) (undef) (undef) (undef) (undef) (undef) (undef) (undef) (undef) (undef) (undef) (undef) (undef) (undef) (undef) (undef) (undef) (undef)) (by kernel_rfl) ?hst ?hsp ?_
    case hst => exact ⟨_, _, _, _, _, _, _, _, _, _, rfl, drewN_none _ 1, by simp, by simp, by simp, by simp, by simp, by simp, by simp, by simp, by simp, by simp⟩
    case hsp =>
      rintro L act W i hs ⟨u80, u81, u82, u83, u84, u79, u85, u86, u14, u15, rfl, hG, p0, p1, p2, p3, p4, p5, p6, p7, p8, p9⟩ hi hl hd
      have hi' : i < 10 := hi
      have hc' : i = 0 ∨ i = 1 ∨ i = 2 ∨ i = 3 ∨ i = 4 ∨ i = 5 ∨ i = 6 ∨ i = 7 ∨ i = 8 ∨ i = 9 := by omega
      rcases hc' with rfl | rfl | rfl | rfl | rfl | rfl | rfl | rfl | rfl | rfl
      · have hLf : L.getD 0 false = false := getD_false hl (by rw [hs]; decide)
        have hsz : 0 < L.size := by rw [hs]; decide
        have OL : ∀ j, j ≠ 0 → (L.setIfInBounds 0 true).getD j false = true → L.getD j false = true := fun j hj h => by rw [getD_setB _ _ _ _ hsz, if_neg hj] at h; exact h
        have ST0 := p0
        have ST1 := p1
        have ST2 := p2
        have ST3 := p3
        have ST4 := p4
        have ST5 := p5
        have ST6 := p6
        have ST7 := p7
        have ST8 := p8
        have ST9 := p9
        refine wpOp_run rfl rfl fun K hK => ?_
        clear hd hs hi hl
        go_simp
        refine hK _ _ ⟨_, _, _, _, _, _, _, _, _, _, rfl, hG, fun _ => rfl, fun h => ST1 (OL 1 (by decide) h), fun h => ST2 (OL 2 (by decide) h), fun h => ST3 (OL 3 (by decide) h), fun h => ST4 (OL 4 (by decide) h), fun h => ST5 (OL 5 (by decide) h), fun h => ST6 (OL 6 (by decide) h), fun h => ST7 (OL 7 (by decide) h), fun h => ST8 (OL 8 (by decide) h), fun h => ST9 (OL 9 (by decide) h)⟩
      · have hLf : L.getD 1 false = false := getD_false hl (by rw [hs]; decide)
        have hsz : 1 < L.size := by rw [hs]; decide
        have OL : ∀ j, j ≠ 1 → (L.setIfInBounds 1 true).getD j false = true → L.getD j false = true := fun j hj h => by rw [getD_setB _ _ _ _ hsz, if_neg hj] at h; exact h
        have d0 := hd _ rfl ⟨0, .data⟩ (by simp) rfl
        obtain rfl := p0 d0
        refine wpOp_run rfl rfl fun K hK => ?_
        clear hd hs hi hl
        go_simp
        refine (toCachedS_c w.heap.size a cap cs _ (HMB.out.gnone hG HBZ.out) (by have := HBZ.out; have := hG.size; omega) HS.out).mono ?_
        rintro e W2 ⟨v5, rfl, ho5, hgk⟩
        have ST0 := p0
        have ST1 := fun h => (p1 h).kept hgk
        have ST2 := p2
        have ST3 := p3
        have ST4 := fun h => (p4 h).kept hgk
        have ST5 := fun h => (p5 h).kept hgk
        have ST6 := fun h => (p6 h).kept hgk
        have ST7 := p7
        have ST8 := fun h => (p8 h).kept hgk
        have ST9 := p9
        refine hK _ _ ⟨_, _, _, _, _, _, _, _, _, _, rfl, none_trans hG hgk, fun h => ST0 (OL 0 (by decide) h), fun _ => ho5.mono hG.size, fun h => ST2 (OL 2 (by decide) h), fun h => ST3 (OL 3 (by decide) h), fun h => ST4 (OL 4 (by decide) h), fun h => ST5 (OL 5 (by decide) h), fun h => ST6 (OL 6 (by decide) h), fun h => ST7 (OL 7 (by decide) h), fun h => ST8 (OL 8 (by decide) h), fun h => ST9 (OL 9 (by decide) h)⟩
      · have hLf : L.getD 2 false = false := getD_false hl (by rw [hs]; decide)
        have hsz : 2 < L.size := by rw [hs]; decide
        have OL : ∀ j, j ≠ 2 → (L.setIfInBounds 2 true).getD j false = true → L.getD j false = true := fun j hj h => by rw [getD_setB _ _ _ _ hsz, if_neg hj] at h; exact h
        have k0 := hG.cell bb0 (by simp)
        have k1 := hG.cell bb1 (by simp)
        have k2 := hG.cell bb2 (by simp)
        have k3 := hG.cell bb3 (by simp)
        have ST0 := p0
        have ST1 := p1
        have ST2 := p2
        have ST3 := p3
        have ST4 := p4
        have ST5 := p5
        have ST6 := p6
        have ST7 := p7
        have ST8 := p8
        have ST9 := p9
        refine wpOp_run rfl rfl fun K hK => ?_
        clear hd hs hi hl
        go_simp
        refine hK _ _ ⟨_, _, _, _, _, _, _, _, _, _, rfl, hG, fun h => ST0 (OL 0 (by decide) h), fun h => ST1 (OL 1 (by decide) h), fun _ => rfl, fun h => ST3 (OL 3 (by decide) h), fun h => ST4 (OL 4 (by decide) h), fun h => ST5 (OL 5 (by decide) h), fun h => ST6 (OL 6 (by decide) h), fun h => ST7 (OL 7 (by decide) h), fun h => ST8 (OL 8 (by decide) h), fun h => ST9 (OL 9 (by decide) h)⟩
      · have hLf : L.getD 3 false = false := getD_false hl (by rw [hs]; decide)
        have hsz : 3 < L.size := by rw [hs]; decide
        have OL : ∀ j, j ≠ 3 → (L.setIfInBounds 3 true).getD j false = true → L.getD j false = true := fun j hj h => by rw [getD_setB _ _ _ _ hsz, if_neg hj] at h; exact h
        have d2 := hd _ rfl ⟨2, .data⟩ (by simp) rfl
        obtain rfl := p2 d2
        refine wpOp_run rfl rfl fun K hK => ?_
        clear hd hs hi hl
        go_simp
        refine (toCached_c _ _ _ _ _).mono ?_
        rintro e W2 ⟨rfl, hgk⟩
        have ST0 := p0
        have ST1 := fun h => (p1 h).kept hgk
        have ST2 := p2
        have ST3 := p3
        have ST4 := fun h => (p4 h).kept hgk
        have ST5 := fun h => (p5 h).kept hgk
        have ST6 := fun h => (p6 h).kept hgk
        have ST7 := p7
        have ST8 := fun h => (p8 h).kept hgk
        have ST9 := p9
        refine hK _ _ ⟨_, _, _, _, _, _, _, _, _, _, rfl, none_trans hG hgk, fun h => ST0 (OL 0 (by decide) h), fun h => ST1 (OL 1 (by decide) h), fun h => ST2 (OL 2 (by decide) h), fun _ => rfl, fun h => ST4 (OL 4 (by decide) h), fun h => ST5 (OL 5 (by decide) h), fun h => ST6 (OL 6 (by decide) h), fun h => ST7 (OL 7 (by decide) h), fun h => ST8 (OL 8 (by decide) h), fun h => ST9 (OL 9 (by decide) h)⟩
      · have hLf : L.getD 4 false = false := getD_false hl (by rw [hs]; decide)
        have hsz : 4 < L.size := by rw [hs]; decide
        have OL : ∀ j, j ≠ 4 → (L.setIfInBounds 4 true).getD j false = true → L.getD j false = true := fun j hj h => by rw [getD_setB _ _ _ _ hsz, if_neg hj] at h; exact h
        have d1 := hd _ rfl ⟨1, .data⟩ (by simp) rfl
        have d3 := hd _ rfl ⟨3, .data⟩ (by simp) rfl
        obtain rfl := p3 d3
        have o1 := p1 d1
        obtain ⟨a5, c5, e5, hk5, -, hm5⟩ := OwnC.caches (hi := W.heap.size) o1 (fun g e => (OwnC.lt o1 g e).2)
        subst e5
        refine wpOp_run rfl rfl fun K hK => ?_
        clear hd hs hi hl
        go_simp
        refine (implCachePut_c W.heap.size a5 c5 cs x _ hm5 (Nat.le_refl _) HS.out hk5).mono ?_
        rintro e W2 ⟨v5, rfl, ho5, hgk⟩
        have ST0 := p0
        have ST1 := fun h => (p1 h).kept hgk
        have ST2 := p2
        have ST3 := p3
        have ST4 := fun h => (p4 h).kept hgk
        have ST5 := fun h => (p5 h).kept hgk
        have ST6 := fun h => (p6 h).kept hgk
        have ST7 := p7
        have ST8 := fun h => (p8 h).kept hgk
        have ST9 := p9
        refine hK _ _ ⟨_, _, _, _, _, _, _, _, _, _, rfl, none_trans hG hgk, fun h => ST0 (OL 0 (by decide) h), fun h => ST1 (OL 1 (by decide) h), fun h => ST2 (OL 2 (by decide) h), fun h => ST3 (OL 3 (by decide) h), fun _ => ⟨v5, rfl, ho5.mono hG.size⟩, fun h => ST5 (OL 5 (by decide) h), fun h => ST6 (OL 6 (by decide) h), fun h => ST7 (OL 7 (by decide) h), fun h => ST8 (OL 8 (by decide) h), fun h => ST9 (OL 9 (by decide) h)⟩
      · have hLf : L.getD 5 false = false := getD_false hl (by rw [hs]; decide)
        have hsz : 5 < L.size := by rw [hs]; decide
        have OL : ∀ j, j ≠ 5 → (L.setIfInBounds 5 true).getD j false = true → L.getD j false = true := fun j hj h => by rw [getD_setB _ _ _ _ hsz, if_neg hj] at h; exact h
        have d4 := hd _ rfl ⟨4, .data⟩ (by simp) rfl
        have ST0 := p0
        have ST1 := p1
        have ST2 := p2
        have ST3 := p3
        have ST4 := p4
        have ST5 := p5
        have ST6 := p6
        have ST7 := p7
        have ST8 := p8
        have ST9 := p9
        refine wpOp_run rfl rfl fun K hK => ?_
        clear hd hs hi hl
        go_simp
        refine hK _ _ ⟨_, _, _, _, _, _, _, _, _, _, rfl, hG, fun h => ST0 (OL 0 (by decide) h), fun h => ST1 (OL 1 (by decide) h), fun h => ST2 (OL 2 (by decide) h), fun h => ST3 (OL 3 (by decide) h), fun h => ST4 (OL 4 (by decide) h), fun _ => p4 d4, fun h => ST6 (OL 6 (by decide) h), fun h => ST7 (OL 7 (by decide) h), fun h => ST8 (OL 8 (by decide) h), fun h => ST9 (OL 9 (by decide) h)⟩
      · have hLf : L.getD 6 false = false := getD_false hl (by rw [hs]; decide)
        have hsz : 6 < L.size := by rw [hs]; decide
        have OL : ∀ j, j ≠ 6 → (L.setIfInBounds 6 true).getD j false = true → L.getD j false = true := fun j hj h => by rw [getD_setB _ _ _ _ hsz, if_neg hj] at h; exact h
        have d5 := hd _ rfl ⟨5, .data⟩ (by simp) rfl
        obtain ⟨v6, rfl, ho6⟩ := p5 d5
        have ST0 := p0
        have ST1 := p1
        have ST2 := p2
        have ST3 := p3
        have ST4 := p4
        have ST5 := p5
        have ST6 := p6
        have ST7 := p7
        have ST8 := p8
        have ST9 := p9
        refine wpOp_run rfl rfl fun K hK => ?_
        clear hd hs hi hl
        go_simp
        refine hK _ _ ⟨_, _, _, _, _, _, _, _, _, _, rfl, hG, fun h => ST0 (OL 0 (by decide) h), fun h => ST1 (OL 1 (by decide) h), fun h => ST2 (OL 2 (by decide) h), fun h => ST3 (OL 3 (by decide) h), fun h => ST4 (OL 4 (by decide) h), fun h => ST5 (OL 5 (by decide) h), fun _ => ho6, fun h => ST7 (OL 7 (by decide) h), fun h => ST8 (OL 8 (by decide) h), fun h => ST9 (OL 9 (by decide) h)⟩
      · have hLf : L.getD 7 false = false := getD_false hl (by rw [hs]; decide)
        have hsz : 7 < L.size := by rw [hs]; decide
        have OL : ∀ j, j ≠ 7 → (L.setIfInBounds 7 true).getD j false = true → L.getD j false = true := fun j hj h => by rw [getD_setB _ _ _ _ hsz, if_neg hj] at h; exact h
        have d5 := hd _ rfl ⟨5, .data⟩ (by simp) rfl
        obtain ⟨v6, rfl, ho6⟩ := p5 d5
        have ST0 := p0
        have ST1 := p1
        have ST2 := p2
        have ST3 := p3
        have ST4 := p4
        have ST5 := p5
        have ST6 := p6
        have ST7 := p7
        have ST8 := p8
        have ST9 := p9
        refine wpOp_run rfl rfl fun K hK => ?_
        clear hd hs hi hl
        go_simp
        refine hK _ _ ⟨_, _, _, _, _, _, _, _, _, _, rfl, hG, fun h => ST0 (OL 0 (by decide) h), fun h => ST1 (OL 1 (by decide) h), fun h => ST2 (OL 2 (by decide) h), fun h => ST3 (OL 3 (by decide) h), fun h => ST4 (OL 4 (by decide) h), fun h => ST5 (OL 5 (by decide) h), fun h => ST6 (OL 6 (by decide) h), fun _ => rfl, fun h => ST8 (OL 8 (by decide) h), fun h => ST9 (OL 9 (by decide) h)⟩
      · have hLf : L.getD 8 false = false := getD_false hl (by rw [hs]; decide)
        have hsz : 8 < L.size := by rw [hs]; decide
        have OL : ∀ j, j ≠ 8 → (L.setIfInBounds 8 true).getD j false = true → L.getD j false = true := fun j hj h => by rw [getD_setB _ _ _ _ hsz, if_neg hj] at h; exact h
        have d6 := hd _ rfl ⟨6, .data⟩ (by simp) rfl
        have ST0 := p0
        have ST1 := p1
        have ST2 := p2
        have ST3 := p3
        have ST4 := p4
        have ST5 := p5
        have ST6 := p6
        have ST7 := p7
        have ST8 := p8
        have ST9 := p9
        refine wpOp_run rfl rfl fun K hK => ?_
        clear hd hs hi hl
        go_simp
        refine hK _ _ ⟨_, _, _, _, _, _, _, _, _, _, rfl, hG, fun h => ST0 (OL 0 (by decide) h), fun h => ST1 (OL 1 (by decide) h), fun h => ST2 (OL 2 (by decide) h), fun h => ST3 (OL 3 (by decide) h), fun h => ST4 (OL 4 (by decide) h), fun h => ST5 (OL 5 (by decide) h), fun h => ST6 (OL 6 (by decide) h), fun h => ST7 (OL 7 (by decide) h), fun _ => p6 d6, fun h => ST9 (OL 9 (by decide) h)⟩
      · have hLf : L.getD 9 false = false := getD_false hl (by rw [hs]; decide)
        have hsz : 9 < L.size := by rw [hs]; decide
        have OL : ∀ j, j ≠ 9 → (L.setIfInBounds 9 true).getD j false = true → L.getD j false = true := fun j hj h => by rw [getD_setB _ _ _ _ hsz, if_neg hj] at h; exact h
        have d7 := hd _ rfl ⟨7, .data⟩ (by simp) rfl
        obtain rfl := p7 d7
        have ST0 := p0
        have ST1 := p1
        have ST2 := p2
        have ST3 := p3
        have ST4 := p4
        have ST5 := p5
        have ST6 := p6
        have ST7 := p7
        have ST8 := p8
        have ST9 := p9
        refine wpOp_run rfl rfl fun K hK => ?_
        clear hd hs hi hl
        go_simp
        refine hK _ _ ⟨_, _, _, _, _, _, _, _, _, _, rfl, hG, fun h => ST0 (OL 0 (by decide) h), fun h => ST1 (OL 1 (by decide) h), fun h => ST2 (OL 2 (by decide) h), fun h => ST3 (OL 3 (by decide) h), fun h => ST4 (OL 4 (by decide) h), fun h => ST5 (OL 5 (by decide) h), fun h => ST6 (OL 6 (by decide) h), fun h => ST7 (OL 7 (by decide) h), fun h => ST8 (OL 8 (by decide) h), fun _ => rfl⟩
    rintro L act w12 ⟨u80, u81, u82, u83, u84, u79, u85, u86, u14, u15, rfl, hg12, p0, p1, p2, p3, p4, p5, p6, p7, p8, p9⟩ hall
    have ho12 : OwnC w12 w11.heap.size u14 (cpL cs x) := p8 (hall 8 (by decide))
    have eb := p9 (hall 9 (by decide))
    subst eb
    clear hall p0 p1 p2 p3 p4 p5 p6 p7 p8 p9 HMB HBZ bb0 bb1 bb2 bb3
    have hh12 : ∀ g, u14.ownBlock = some g → g < w12.heap.size := fun g e => (ho12.lt g e).2
    obtain ⟨x12, c12, rfl, hk12, _, hm12⟩ := ho12.caches hh12
    have HHH := Lib.hid hh12
    have HKH := Lib.hid hk12
    have HB12 := Lib.hid (below_none HB11.out (Nat.le_refl _) hg12)
    have HZ12 := Lib.hid hg12.size
    have HOW12 := Lib.hid (HOW11.out.gnone hg12)
    have HCW12 := Lib.hid (HCW11.out.gnone hg12 (by have := HZ1.out; have := HZ2.out; have := HZ3.out; have := HZ4.out; have := HZ5.out; have := HZ6.out; have := HZ7.out; have := HZ8.out; have := HZ9.out; have := HZ10.out; have := HZ11.out; omega))
    have HOG12 := Lib.hid (HOG11.out.gnone hg12)
    have HCG12 := Lib.hid (HCG11.out.gnone hg12 (by have := HZ1.out; have := HZ2.out; have := HZ3.out; have := HZ4.out; have := HZ5.out; have := HZ6.out; have := HZ7.out; have := HZ8.out; have := HZ9.out; have := HZ10.out; have := HZ11.out; omega))
    have HCb12 := Lib.hid (HCb11.out.gnone hg12 (by have := HZ1.out; have := HZ2.out; have := HZ3.out; have := HZ4.out; have := HZ5.out; have := HZ6.out; have := HZ7.out; have := HZ8.out; have := HZ9.out; have := HZ10.out; have := HZ11.out; omega))
    have HOH12 := Lib.hid ho12
    have HCH12 := Lib.hid hm12
    clear ho12 hm12 hg12 hh12 hk12
    go_wp2_with fail
    refine (eqCachedS_k w12.heap.size w2.heap.size x12 x2 c12 c2 (cpL cs x) (cpL cs x) _ HCH12.out HCW12.out (by have := HZ1.out; have := HZ2.out; have := HZ3.out; have := HZ4.out; have := HZ5.out; have := HZ6.out; have := HZ7.out; have := HZ8.out; have := HZ9.out; have := HZ10.out; have := HZ11.out; have := HZ12.out; omega) (by have := HZ1.out; have := HZ2.out; have := HZ3.out; have := HZ4.out; have := HZ5.out; have := HZ6.out; have := HZ7.out; have := HZ8.out; have := HZ9.out; have := HZ10.out; have := HZ11.out; have := HZ12.out; omega) HSL.out HSL.out rfl).mono ?_
    rintro e13 w13 ⟨rfl, hg13⟩
    have HB13 := Lib.hid (below_none HB12.out (Nat.le_refl _) hg13)
    have HZ13 := Lib.hid hg13.size
    have HOW13 := Lib.hid (HOW12.out.gnone hg13)
    have HCW13 := Lib.hid (HCW12.out.gnone hg13 (by have := HZ1.out; have := HZ2.out; have := HZ3.out; have := HZ4.out; have := HZ5.out; have := HZ6.out; have := HZ7.out; have := HZ8.out; have := HZ9.out; have := HZ10.out; have := HZ11.out; have := HZ12.out; omega))
    have HOG13 := Lib.hid (HOG12.out.gnone hg13)
    have HCG13 := Lib.hid (HCG12.out.gnone hg13 (by have := HZ1.out; have := HZ2.out; have := HZ3.out; have := HZ4.out; have := HZ5.out; have := HZ6.out; have := HZ7.out; have := HZ8.out; have := HZ9.out; have := HZ10.out; have := HZ11.out; have := HZ12.out; omega))
    have HOH13 := Lib.hid (HOH12.out.gnone hg13)
    have HCH13 := Lib.hid (HCH12.out.gnone hg13 (by have := HZ1.out; have := HZ2.out; have := HZ3.out; have := HZ4.out; have := HZ5.out; have := HZ6.out; have := HZ7.out; have := HZ8.out; have := HZ9.out; have := HZ10.out; have := HZ11.out; have := HZ12.out; omega))
    have HCb13 := Lib.hid (HCb12.out.gnone hg13 (by have := HZ1.out; have := HZ2.out; have := HZ3.out; have := HZ4.out; have := HZ5.out; have := HZ6.out; have := HZ7.out; have := HZ8.out; have := HZ9.out; have := HZ10.out; have := HZ11.out; have := HZ12.out; omega))
    clear hg13
    go_wp2_with fail
    refine (heldCachedS_k w5.heap.size x5 c5 xsG (cpL cs x).length 1 _ HCG13.out HLG.out HSL.out (by omega) (by omega) HXG.out).mono ?_
    rintro e w' ⟨rfl, rfl⟩
    go_wp2_with fail
    go_ret
    exact ⟨rfl, HB13.out⟩
theorem FnExactCachePut_w (a : Option Addr) (len cap : Nat) (cs : List CachedV) (e p f : Int) (b : Bool) (w : World) (h : CachesL w a len cap cs) :
    Calls Try.prog 6 #[.slice a len cap, .agg #[.int .i64 e, .int .i64 p, .int .i64 f, .bool b]] w fun e w' => e = .returned (.bool true) ∧ Below w.heap.size w w' := FnExactCachePut_x a len cap cs ⟨e, p, f, b⟩ w h
end Go.Proofs.Ytmoalecejjeiiaa
