/-
  The walks of the exact laws on lists of translations: each returns true and writes nothing that was there. No conditions.
-/
import Derived.Test.YtmoalecejjeiiaaOpenC
import Derived.Test.YtmoalecejjeiiaaCacheOwn
namespace Go.Proofs.Ytmoalecejjeiiaa
open Go.RowKit

theorem box_caches (w : World) (t : TypeId) (c : CachedV) : Caches (w.alloc (.cells #[.int .i64 c.e, .int .i64 c.p, .int .i64 c.f, .bool c.b] t)) (w.heap.size + 1) (some ⟨w.heap.size, 0, none⟩) [c] := by
  refine .inr ⟨w.heap.size, 0, rfl, by omega, fun i hi => ?_⟩
  simp only [List.length_singleton] at hi
  obtain rfl : i = 0 := by omega
  exact ⟨cell_new _ _ _ _ _ rfl, cell_new _ _ _ _ _ rfl, cell_new _ _ _ _ _ rfl, cell_new _ _ _ _ _ rfl⟩
theorem Caches.box {w : World} {B b : Nat} {c : CachedV} (h : Caches w B (some ⟨b, 0, none⟩) [c]) :
    w.cell? ⟨b, 0, none⟩ = some (.int .i64 c.e) ∧ w.cell? ⟨b, 1, none⟩ = some (.int .i64 c.p) ∧ w.cell? ⟨b, 2, none⟩ = some (.int .i64 c.f) ∧ w.cell? ⟨b, 3, none⟩ = some (.bool c.b) := by
  obtain ⟨b', off, e, _, h0, h1, h2, h3⟩ := h.at_ (i := 0) (by simp)
  simp only [Option.some.injEq, Addr.mk.injEq, and_true] at e
  obtain ⟨rfl, rfl⟩ := e
  exact ⟨h0, h1, h2, h3⟩
theorem Caches.turned {w w' : World} {B lo hi : Nat} {a : Option Addr} {cs : List CachedV} (h : Caches w B a cs) (hT : Turned lo hi w w') (hl : B ≤ lo) (hB : B ≤ w.heap.size) : Caches w' B a cs := h.kept fun j hj => hT.block j (by omega) (by omega)
theorem eqCachedS_k (B B' : Nat) (a a' : Option Addr) (cap cap' : Nat) (la lb : List CachedV) (w : World) (h : Caches w B a la) (h' : Caches w B' a' lb) (hB : B ≤ w.heap.size) (hB' : B' ≤ w.heap.size) (hm : la.length ≤ 1048576) (hm' : lb.length ≤ 1048576) (he : la = lb) :
    Calls Try.prog 11 #[.slice a la.length cap, .slice a' lb.length cap'] w fun en w' => en = .returned (.bool true) ∧ w.grownBy w' none := by
  have := eqCachedS_c B B' a a' cap cap' la lb w h h' hB hB' hm hm'
  rw [decide_eq_true he] at this
  exact this
theorem heldCachedS_k (B : Nat) (a : Option Addr) (cap : Nat) (xs : List CachedV) (m : Nat) (n : Int) (w : World) (h : Caches w B a xs) (hl : xs.length = m) (hm : m ≤ 1048576) (h0 : 0 ≤ n) (h1 : n ≤ 1000000000) (hM : ∀ j, j < m → xs.getD j c0V = markC n j) :
    Calls Try.prog 18 #[.slice a m cap, .int .i64 n] w fun en w' => en = .returned (.int .i64 (n + 4 * m)) ∧ w = w' := by
  subst hl
  exact heldCachedS_c B a cap xs n w h hm h0 h1 hM
set_option maxHeartbeats 2000000 in
theorem FnExactCacheValid_w (a : Option Addr) (len cap : Nat) (cs : List CachedV) (w : World) (h : CachesL w a len cap cs) :
    Calls Try.prog 3 #[.slice a len cap] w fun e w' => e = .returned (.bool true) ∧ Below w.heap.size w w' := by
  obtain ⟨rfl, hlc, hcm, hmem⟩ := h
  have HM := Lib.hid hmem
  clear hmem
  go_enter Try.func3, Try.ntmps3
  go_wp2_with fail
  refine (szCachedS_c a cs.length cap _ (by omega)).mono ?_
  rintro e w0 ⟨r, rfl, hr, rfl⟩
  have HSm := Lib.hid hr
  clear hr
  by_cases hneg : r < 0
  · go_wp2_with fail
    go_ret
    exact ⟨rfl, Below.refl _ _⟩
  · have HS := Lib.hid (HSm.out (by omega))
    clear HSm
    have HB0 := Lib.hid (Below.refl w.heap.size w)
    go_wp2_with fail
    refine (toCachedS_c w.heap.size a cap cs _ (HM.out.below HB0.out) HB0.out.size HS.out).mono ?_
    rintro e1 w1 ⟨v1, rfl, ho1, hg1⟩
    have hh1 : ∀ g, v1.ownBlock = some g → g < w1.heap.size := fun g e => (ho1.lt g e).2
    obtain ⟨x1, c1, rfl, hk1, _, hm1⟩ := ho1.caches hh1
    have HHT := Lib.hid hh1
    have HKT := Lib.hid hk1
    have HB1 := Lib.hid (below_none HB0.out (Nat.le_refl _) hg1)
    have HZ1 := Lib.hid hg1.size
    have HOT1 := Lib.hid ho1
    have HCT1 := Lib.hid hm1
    clear ho1 hm1 hg1 hh1 hk1
    go_wp2_with fail
    refine (specCacheValid_c w1.heap.size x1 c1 (cs) _ HCT1.out (by have := HZ1.out; omega) HS.out).mono ?_
    rintro e2 w2 ⟨rfl, hg2⟩
    have HB2 := Lib.hid (below_none HB1.out (Nat.le_refl _) hg2)
    have HZ2 := Lib.hid hg2.size
    have HOT2 := Lib.hid (HOT1.out.gnone hg2)
    have HCT2 := Lib.hid (HCT1.out.gnone hg2 (by have := HZ1.out; omega))
    clear hg2
    go_wp2_with fail
    refine (toCachedS_c w.heap.size a cap cs _ (HM.out.below HB2.out) HB2.out.size HS.out).mono ?_
    rintro e3 w3 ⟨v3, rfl, ho3, hg3⟩
    have hh3 : ∀ g, v3.ownBlock = some g → g < w3.heap.size := fun g e => (ho3.lt g e).2
    obtain ⟨x3, c3, rfl, hk3, _, hm3⟩ := ho3.caches hh3
    have HHX := Lib.hid hh3
    have HKX := Lib.hid hk3
    have HB3 := Lib.hid (below_none HB2.out (Nat.le_refl _) hg3)
    have HZ3 := Lib.hid hg3.size
    have HOX3 := Lib.hid ho3
    have HCX3 := Lib.hid hm3
    clear ho3 hm3 hg3 hh3 hk3
    go_wp2_with fail
    refine (implCacheValid_c w3.heap.size x3 c3 (cs) _ HCX3.out (by have := HZ1.out; have := HZ2.out; have := HZ3.out; omega) HS.out HKX.out).mono ?_
    rintro e4 w4 ⟨rfl, hg4⟩
    have HB4 := Lib.hid (below_none HB3.out (Nat.le_refl _) hg4)
    have HZ4 := Lib.hid hg4.size
    have HOX4 := Lib.hid (HOX3.out.gnone hg4)
    have HCX4 := Lib.hid (HCX3.out.gnone hg4 (by have := HZ1.out; have := HZ2.out; have := HZ3.out; omega))
    clear hg4
    go_wp2_with fail
    refine (toCachedS_c w.heap.size a cap cs _ (HM.out.below HB4.out) HB4.out.size HS.out).mono ?_
    rintro e5 w5 ⟨v5, rfl, ho5, hg5⟩
    have hh5 : ∀ g, v5.ownBlock = some g → g < w5.heap.size := fun g e => (ho5.lt g e).2
    obtain ⟨x5, c5, rfl, hk5, _, hm5⟩ := ho5.caches hh5
    have HHY := Lib.hid hh5
    have HKY := Lib.hid hk5
    have HB5 := Lib.hid (below_none HB4.out (Nat.le_refl _) hg5)
    have HZ5 := Lib.hid hg5.size
    have HOX5 := Lib.hid (HOX4.out.gnone hg5)
    have HCX5 := Lib.hid (HCX4.out.gnone hg5 (by have := HZ1.out; have := HZ2.out; have := HZ3.out; have := HZ4.out; omega))
    have HOY5 := Lib.hid ho5
    have HCY5 := Lib.hid hm5
    clear ho5 hm5 hg5 hh5 hk5
    go_wp2_with fail
    refine (eqCachedS_k w3.heap.size w5.heap.size x3 x5 c3 c5 (cs) (cs) _ HCX5.out HCY5.out (by have := HZ1.out; have := HZ2.out; have := HZ3.out; have := HZ4.out; have := HZ5.out; omega) (by have := HZ1.out; have := HZ2.out; have := HZ3.out; have := HZ4.out; have := HZ5.out; omega) HS.out HS.out rfl).mono ?_
    rintro e6 w6 ⟨rfl, hg6⟩
    have HB6 := Lib.hid (below_none HB5.out (Nat.le_refl _) hg6)
    have HZ6 := Lib.hid hg6.size
    have HOX6 := Lib.hid (HOX5.out.gnone hg6)
    have HCX6 := Lib.hid (HCX5.out.gnone hg6 (by have := HZ1.out; have := HZ2.out; have := HZ3.out; have := HZ4.out; have := HZ5.out; omega))
    have HOY6 := Lib.hid (HOY5.out.gnone hg6)
    have HCY6 := Lib.hid (HCY5.out.gnone hg6 (by have := HZ1.out; have := HZ2.out; have := HZ3.out; have := HZ4.out; have := HZ5.out; omega))
    clear hg6
    go_wp2_with fail
    go_ret
    exact ⟨rfl, HB6.out⟩
set_option maxHeartbeats 2000000 in
theorem FnExactCacheFind_w (a : Option Addr) (len cap : Nat) (cs : List CachedV) (p q : Int) (w : World) (h : CachesL w a len cap cs) :
    Calls Try.prog 4 #[.slice a len cap, .int .i64 p, .int .i64 q] w fun e w' => e = .returned (.bool true) ∧ Below w.heap.size w w' := by
  obtain ⟨rfl, hlc, hcm, hmem⟩ := h
  have HM := Lib.hid hmem
  clear hmem
  go_enter Try.func4, Try.ntmps4
  go_wp2_with fail
  refine (szCachedS_c a cs.length cap _ (by omega)).mono ?_
  rintro e w0 ⟨r, rfl, hr, rfl⟩
  have HSm := Lib.hid hr
  clear hr
  by_cases hneg : r < 0
  · go_wp2_with fail
    go_ret
    exact ⟨rfl, Below.refl _ _⟩
  · have HS := Lib.hid (HSm.out (by omega))
    clear HSm
    have HB0 := Lib.hid (Below.refl w.heap.size w)
    go_wp2_with fail
    refine (toCachedS_c w.heap.size a cap cs _ (HM.out.below HB0.out) HB0.out.size HS.out).mono ?_
    rintro e1 w1 ⟨v1, rfl, ho1, hg1⟩
    have hh1 : ∀ g, v1.ownBlock = some g → g < w1.heap.size := fun g e => (ho1.lt g e).2
    obtain ⟨x1, c1, rfl, hk1, _, hm1⟩ := ho1.caches hh1
    have HHT := Lib.hid hh1
    have HKT := Lib.hid hk1
    have HB1 := Lib.hid (below_none HB0.out (Nat.le_refl _) hg1)
    have HZ1 := Lib.hid hg1.size
    have HOT1 := Lib.hid ho1
    have HCT1 := Lib.hid hm1
    clear ho1 hm1 hg1 hh1 hk1
    go_wp2_with fail
    refine (specCacheFind_c w1.heap.size x1 c1 (cs) p q _ HCT1.out (by have := HZ1.out; omega) HS.out).mono ?_
    rintro e2 w2 ⟨rfl, hg2⟩
    have HB2 := Lib.hid (below_none HB1.out (Nat.le_refl _) hg2)
    have HZ2 := Lib.hid hg2.size
    have HOT2 := Lib.hid (HOT1.out.gnone hg2)
    have HCT2 := Lib.hid (HCT1.out.gnone hg2 (by have := HZ1.out; omega))
    clear hg2
    go_wp2_with fail
    generalize hw3 : World.alloc _ _ = w3
    have hg3 : w2.grownBy w3 none := by rw [← hw3]; exact World.grownBy_alloc _ _ _
    have hb3 : Caches w3 (w2.heap.size + 1) (some ⟨w2.heap.size, 0, none⟩) [cfV cs p q] := by rw [← hw3]; exact box_caches _ _ _
    have hz3 : w2.heap.size + 1 ≤ w3.heap.size := by rw [← hw3]; simp
    have HB3 := Lib.hid (below_none HB2.out (Nat.le_refl _) hg3)
    have HZ3 := Lib.hid hg3.size
    have HZ3 := Lib.hid hz3
    have HCb3 := Lib.hid hb3
    clear hg3 hb3 hw3 hz3
    refine (toCachedS_c w.heap.size a cap cs _ (HM.out.below HB3.out) HB3.out.size HS.out).mono ?_
    rintro e4 w4 ⟨v4, rfl, ho4, hg4⟩
    have hh4 : ∀ g, v4.ownBlock = some g → g < w4.heap.size := fun g e => (ho4.lt g e).2
    obtain ⟨x4, c4, rfl, hk4, _, hm4⟩ := ho4.caches hh4
    have HHX := Lib.hid hh4
    have HKX := Lib.hid hk4
    have HB4 := Lib.hid (below_none HB3.out (Nat.le_refl _) hg4)
    have HZ4 := Lib.hid hg4.size
    have HCb4 := Lib.hid (HCb3.out.gnone hg4 (by have := HZ1.out; have := HZ2.out; have := HZ3.out; omega))
    have HOX4 := Lib.hid ho4
    have HCX4 := Lib.hid hm4
    clear ho4 hm4 hg4 hh4 hk4
    go_wp2_with fail
    refine (implCacheFind_c w4.heap.size x4 c4 (cs) p q _ HCX4.out (by have := HZ1.out; have := HZ2.out; have := HZ3.out; have := HZ4.out; omega) HS.out HKX.out).mono ?_
    rintro e5 w5 ⟨rfl, hg5⟩
    have HB5 := Lib.hid (below_none HB4.out (Nat.le_refl _) hg5)
    have HZ5 := Lib.hid hg5.size
    have HOX5 := Lib.hid (HOX4.out.gnone hg5)
    have HCX5 := Lib.hid (HCX4.out.gnone hg5 (by have := HZ1.out; have := HZ2.out; have := HZ3.out; have := HZ4.out; omega))
    have HCb5 := Lib.hid (HCb4.out.gnone hg5 (by have := HZ1.out; have := HZ2.out; have := HZ3.out; have := HZ4.out; omega))
    clear hg5
    obtain ⟨bb0, bb1, bb2, bb3⟩ := HCb5.out.box
    have bbl := World.block_lt_of_cell? _ _ bb0
    go_wp2_with fail
    refine (eqCached_k (cfV cs p q) (cfV cs p q) _ true (decide_eq_true rfl)).mono ?_
    rintro e6 w6 ⟨rfl, hg6⟩
    replace hg6 := none_trans (World.grownBy_alloc w5 _ none) hg6
    clear bb0 bb1 bb2 bb3 bbl
    have HB6 := Lib.hid (below_none HB5.out (Nat.le_refl _) hg6)
    have HZ6 := Lib.hid hg6.size
    have HOX6 := Lib.hid (HOX5.out.gnone hg6)
    have HCX6 := Lib.hid (HCX5.out.gnone hg6 (by have := HZ1.out; have := HZ2.out; have := HZ3.out; have := HZ4.out; have := HZ5.out; omega))
    have HCb6 := Lib.hid (HCb5.out.gnone hg6 (by have := HZ1.out; have := HZ2.out; have := HZ3.out; have := HZ4.out; have := HZ5.out; omega))
    clear hg6
    go_wp2_with fail
    refine (toCachedS_c w.heap.size a cap cs _ (HM.out.below HB6.out) HB6.out.size HS.out).mono ?_
    rintro e7 w7 ⟨v7, rfl, ho7, hg7⟩
    have hh7 : ∀ g, v7.ownBlock = some g → g < w7.heap.size := fun g e => (ho7.lt g e).2
    obtain ⟨x7, c7, rfl, hk7, _, hm7⟩ := ho7.caches hh7
    have HHY := Lib.hid hh7
    have HKY := Lib.hid hk7
    have HB7 := Lib.hid (below_none HB6.out (Nat.le_refl _) hg7)
    have HZ7 := Lib.hid hg7.size
    have HOX7 := Lib.hid (HOX6.out.gnone hg7)
    have HCX7 := Lib.hid (HCX6.out.gnone hg7 (by have := HZ1.out; have := HZ2.out; have := HZ3.out; have := HZ4.out; have := HZ5.out; have := HZ6.out; omega))
    have HCb7 := Lib.hid (HCb6.out.gnone hg7 (by have := HZ1.out; have := HZ2.out; have := HZ3.out; have := HZ4.out; have := HZ5.out; have := HZ6.out; omega))
    have HOY7 := Lib.hid ho7
    have HCY7 := Lib.hid hm7
    clear ho7 hm7 hg7 hh7 hk7
    go_wp2_with fail
    refine (eqCachedS_k w4.heap.size w7.heap.size x4 x7 c4 c7 (cs) (cs) _ HCX7.out HCY7.out (by have := HZ1.out; have := HZ2.out; have := HZ3.out; have := HZ4.out; have := HZ5.out; have := HZ6.out; have := HZ7.out; omega) (by have := HZ1.out; have := HZ2.out; have := HZ3.out; have := HZ4.out; have := HZ5.out; have := HZ6.out; have := HZ7.out; omega) HS.out HS.out rfl).mono ?_
    rintro e8 w8 ⟨rfl, hg8⟩
    have HB8 := Lib.hid (below_none HB7.out (Nat.le_refl _) hg8)
    have HZ8 := Lib.hid hg8.size
    have HOX8 := Lib.hid (HOX7.out.gnone hg8)
    have HCX8 := Lib.hid (HCX7.out.gnone hg8 (by have := HZ1.out; have := HZ2.out; have := HZ3.out; have := HZ4.out; have := HZ5.out; have := HZ6.out; have := HZ7.out; omega))
    have HOY8 := Lib.hid (HOY7.out.gnone hg8)
    have HCY8 := Lib.hid (HCY7.out.gnone hg8 (by have := HZ1.out; have := HZ2.out; have := HZ3.out; have := HZ4.out; have := HZ5.out; have := HZ6.out; have := HZ7.out; omega))
    have HCb8 := Lib.hid (HCb7.out.gnone hg8 (by have := HZ1.out; have := HZ2.out; have := HZ3.out; have := HZ4.out; have := HZ5.out; have := HZ6.out; have := HZ7.out; omega))
    clear hg8
    go_wp2_with fail
    go_ret
    exact ⟨rfl, HB8.out⟩
end Go.Proofs.Ytmoalecejjeiiaa
