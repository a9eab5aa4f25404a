/-
  The walks of the exact laws on memories: each returns true and writes nothing that was there. No conditions.
-/
import Derived.Test.YtjocofpdbcpdhaaOpenM
import Derived.Test.YtjocofpdbcpdhaaMemPut
import Derived.Test.YtjocofpdbcpdhaaWalk
namespace Go.Proofs.Ytjocofpdbcpdhaa
open Go.RowKit

theorem small_nil : Small [] := by unfold Small; simp [sums]
theorem small_set {ls : List (List Int)} (hv : mvB ls = true) (k : Nat) (l : List Int) (hl : l.length = 4) : Small (ls.set k l) := by
  obtain ⟨h1, h2, _⟩ := mv_shape hv
  refine Small.of (by rw [List.length_set]; omega) (fun i hi => ?_)
  rw [List.length_set] at hi
  rcases Nat.lt_or_ge k ls.length with hk | hk
  · rw [getD_setL _ _ _ _ hk]
    split
    · omega
    · rw [h2 i (by omega)]; omega
  · rw [List.set_eq_of_length_le hk, h2 i (by omega)]; omega
theorem mpL_small (ls : List (List Int)) (f t n : Int) : Small (mpL ls f t n) := by
  rcases mp_cases ls f t n with ⟨_, h, _⟩ | ⟨_, h, hv, h2, _⟩
  · rw [h]; exact small_nil
  · rw [h]
    have b := inR_iff.1 h2
    exact small_set hv _ _ (by rw [List.length_set, (mv_shape hv).2.1 f.toNat (by omega)])
theorem mcL_small (ls : List (List Int)) (f t : Int) : Small (mcL ls f t) := by
  rcases mc_cases ls f t with ⟨_, h, _⟩ | ⟨_, h, hv, h2, _⟩
  · rw [h]; exact small_nil
  · rw [h]
    have b := inR_iff.1 h2
    exact small_set hv _ _ ((mv_shape hv).2.1 f.toNat (by omega))
theorem mlL_small (ls : List (List Int)) (f : Int) : Small (mlL ls f) := by
  rcases ml_cases ls f with ⟨_, h, _⟩ | ⟨_, h, hv, _⟩
  · rw [h]; exact small_nil
  · rw [h]
    exact small_set hv _ _ rfl
set_option maxHeartbeats 400000 in
theorem eqPlace_c (F A : Int) (W : Bool) (w : World) :
    Calls Try.prog 26 #[.agg #[.int .i64 F, .int .i64 A, .bool W], .agg #[.int .i64 F, .int .i64 A, .bool W]] w fun e w' => e = .returned (.bool true) ∧ w.grownBy w' none := by
  go_enter Try.func26, Try.ntmps26
  go_wp2
  go_ret
  exact ⟨rfl, none_alloc (World.grownBy_alloc _ _ _) _⟩
set_option maxHeartbeats 2000000 in
theorem FnExactWalk_w (a : Option Addr) (len cap : Nat) (ls : List (List Int)) (f t : Int) (w : World) (h : Rows2 w a len cap ls) :
    Calls Try.prog 8 #[.slice a len cap, .int .i64 f, .int .i64 t] w fun e w' => e = .returned (.bool true) ∧ Below w.heap.size w w' := by
  obtain ⟨rfl, hlc, hcm, hrows, hmem⟩ := h
  have HM := Lib.hid hmem
  have HR : Hid (∀ i, (ls.getD i []).length ≤ maxLen) := by
    intro i
    rcases Nat.lt_or_ge i ls.length with hi | hi
    · exact hrows _ (getD_memL hi)
    · rw [List.getD_eq_getElem?_getD, List.getElem?_eq_none hi]; simp
  clear hrows hmem
  go_enter Try.func8, Try.ntmps8
  go_wp2_with fail
  refine (szIntSS_c w.heap.size a cap ls _ HM.out (by omega) HR.out).mono ?_
  rintro e w0 ⟨r, rfl, hr, rfl⟩
  have HSm := Lib.hid hr
  clear hr
  by_cases hneg : r < 0
  · go_wp2_with fail
    go_ret
    exact ⟨rfl, Below.refl _ _⟩
  · have HS := Lib.hid (HSm.out (by omega))
    clear HSm
    have HB0 := Lib.hid (Below.refl w.heap.size w)
    go_wp2_with fail
    refine (toIntSS_c w.heap.size a cap ls _ (HM.out.below HB0.out) HB0.out.size HS.out).mono ?_
    rintro e w1 ⟨v1, rfl, ho1, hg1⟩
    obtain ⟨x1, c1, rfl, _, _, hm1⟩ := ho1.mem
    have HB1 := Lib.hid (below_none HB0.out (Nat.le_refl _) hg1)
    have HZ1 := Lib.hid hg1.size
    have HOT1 := Lib.hid ho1
    have HMT1 := Lib.hid hm1
    clear ho1 hm1 hg1
    go_wp2_with fail
    refine (specWalk_c w1.heap.size x1 c1 ls f t _ HMT1.out (Nat.le_refl _) HS.out).mono ?_
    rintro e w2 ⟨rfl, hg2⟩
    have HE : Hid (∃ vF vA vW vN, WalkV (wkF ls f t) (wkA ls f t) (wkW ls f t) (wkN ls f t) = WalkV vF vA vW vN) := ⟨_, _, _, _, rfl⟩
    obtain ⟨vF, vA, vW, vN, hV⟩ := HE.out
    have HV := Lib.hid hV
    rw [hV]
    clear HE hV
    unfold WalkV
    have HB2 := Lib.hid (below_none HB1.out (Nat.le_refl _) hg2)
    have HZ2 := Lib.hid hg2.size
    have HOT2 := Lib.hid (HOT1.out.gnone hg2)
    have HMT2 := Lib.hid (HMT1.out.gnone hg2 (by have := HZ1.out; omega))
    clear hg2
    go_wp2_with fail
    have HC3 : Hid ((w2.alloc (.cells #[.int .i64 vF, .int .i64 vA, .bool vW] 37)).cell? ⟨w2.heap.size, 0, none⟩ = some (.int .i64 vF) ∧ (w2.alloc (.cells #[.int .i64 vF, .int .i64 vA, .bool vW] 37)).cell? ⟨w2.heap.size, 1, none⟩ = some (.int .i64 vA) ∧ (w2.alloc (.cells #[.int .i64 vF, .int .i64 vA, .bool vW] 37)).cell? ⟨w2.heap.size, 2, none⟩ = some (.bool vW)) := ⟨cell_new _ _ _ 0 _ rfl, cell_new _ _ _ 1 _ rfl, cell_new _ _ _ 2 _ rfl⟩
    have hg3 := World.grownBy_alloc w2 (.cells #[.int .i64 vF, .int .i64 vA, .bool vW] 37) none
    generalize w2.alloc (.cells #[.int .i64 vF, .int .i64 vA, .bool vW] 37) = w3 at *
    have HB3 := Lib.hid (below_none HB2.out (Nat.le_refl _) hg3)
    have HZ3 := Lib.hid hg3.size
    clear hg3
    refine (toIntSS_c w.heap.size a cap ls _ (HM.out.below HB3.out) HB3.out.size HS.out).mono ?_
    rintro e w4 ⟨v4, rfl, ho4, hg4⟩
    obtain ⟨x4, c4, rfl, _, _, hm4⟩ := ho4.mem
    have HB4 := Lib.hid (below_none HB3.out (Nat.le_refl _) hg4)
    have HZ4 := Lib.hid hg4.size
    have HG4 := Lib.hid hg4
    have HOX4 := Lib.hid ho4
    have HMX4 := Lib.hid hm4
    clear ho4 hm4 hg4
    have HC4 : Hid (w4.cell? ⟨w2.heap.size, 0, none⟩ = some (.int .i64 vF) ∧ w4.cell? ⟨w2.heap.size, 1, none⟩ = some (.int .i64 vA) ∧ w4.cell? ⟨w2.heap.size, 2, none⟩ = some (.bool vW)) := ⟨HG4.out.cell HC3.out.1 (by simp), HG4.out.cell HC3.out.2.1 (by simp), HG4.out.cell HC3.out.2.2 (by simp)⟩
    go_wp2_with fail
    refine (implWalk_c w4.heap.size x4 c4 ls f t _ HMX4.out (Nat.le_refl _) HS.out).mono ?_
    rintro e w5 ⟨rfl, hg5⟩
    rw [HV.out]
    unfold WalkV
    have hm5 := none_alloc hg5 (.cells #[.int .i64 vF, .int .i64 vA, .bool vW] 37)
    have k0 := hm5.cell HC4.out.1 (by simp)
    have k1 := hm5.cell HC4.out.2.1 (by simp)
    have k2 := hm5.cell HC4.out.2.2 (by simp)
    clear hm5
    have HB5 := Lib.hid (below_none HB4.out (Nat.le_refl _) hg5)
    have HZ5 := Lib.hid hg5.size
    have HOX5 := Lib.hid (HOX4.out.gnone hg5)
    have HMX5 := Lib.hid (HMX4.out.gnone hg5 (by have := HZ1.out; have := HZ2.out; have := HZ3.out; have := HZ4.out; omega))
    clear hg5
    go_wp2_with fail
    refine (eqPlace_c vF vA vW _).mono ?_
    rintro e w6 ⟨rfl, hq6⟩
    have hg6 := none_trans (World.grownBy_alloc w5 (.cells #[.int .i64 vF, .int .i64 vA, .bool vW] 37) none) hq6
    clear hq6
    have HB6 := Lib.hid (below_none HB5.out (Nat.le_refl _) hg6)
    have HZ6 := Lib.hid hg6.size
    have HOX6 := Lib.hid (HOX5.out.gnone hg6)
    have HMX6 := Lib.hid (HMX5.out.gnone hg6 (by have := HZ1.out; have := HZ2.out; have := HZ3.out; have := HZ4.out; have := HZ5.out; omega))
    clear hg6
    clear k0 k1 k2
    go_wp2_with fail
    refine (toIntSS_c w.heap.size a cap ls _ (HM.out.below HB6.out) HB6.out.size HS.out).mono ?_
    rintro e w7 ⟨v7, rfl, ho7, hg7⟩
    obtain ⟨x7, c7, rfl, _, _, hm7⟩ := ho7.mem
    have HB7 := Lib.hid (below_none HB6.out (Nat.le_refl _) hg7)
    have HZ7 := Lib.hid hg7.size
    have HOX7 := Lib.hid (HOX6.out.gnone hg7)
    have HMX7 := Lib.hid (HMX6.out.gnone hg7 (by have := HZ1.out; have := HZ2.out; have := HZ3.out; have := HZ4.out; have := HZ5.out; have := HZ6.out; omega))
    have HOY7 := Lib.hid ho7
    have HMY7 := Lib.hid hm7
    clear ho7 hm7 hg7
    go_wp2_with fail
    refine (eqIntSS_c w4.heap.size w7.heap.size x4 x7 c4 c7 (ls) (ls) _ HMX7.out HMY7.out HS.out HS.out).mono ?_
    rintro e w8 ⟨rfl, q8, hw8⟩
    rw [beq_self_eq_true]
    have hg8 : w7.grownBy w8 none := by rw [hw8]; exact drewN_none _ _
    clear hw8
    have HB8 := Lib.hid (below_none HB7.out (Nat.le_refl _) hg8)
    have HZ8 := Lib.hid hg8.size
    have HOX8 := Lib.hid (HOX7.out.gnone hg8)
    have HMX8 := Lib.hid (HMX7.out.gnone hg8 (by have := HZ1.out; have := HZ2.out; have := HZ3.out; have := HZ4.out; have := HZ5.out; have := HZ6.out; have := HZ7.out; omega))
    have HOY8 := Lib.hid (HOY7.out.gnone hg8)
    have HMY8 := Lib.hid (HMY7.out.gnone hg8 (by have := HZ1.out; have := HZ2.out; have := HZ3.out; have := HZ4.out; have := HZ5.out; have := HZ6.out; have := HZ7.out; omega))
    clear hg8
    go_wp2_with fail
    go_ret
    exact ⟨rfl, HB8.out⟩
set_option maxHeartbeats 2000000 in
theorem FnExactMemoryValid_w (a : Option Addr) (len cap : Nat) (ls : List (List Int)) (w : World) (h : Rows2 w a len cap ls) :
    Calls Try.prog 3 #[.slice a len cap] w fun e w' => e = .returned (.bool true) ∧ Below w.heap.size w w' := by
  obtain ⟨rfl, hlc, hcm, hrows, hmem⟩ := h
  have HM := Lib.hid hmem
  have HR : Hid (∀ i, (ls.getD i []).length ≤ maxLen) := by
    intro i
    rcases Nat.lt_or_ge i ls.length with hi | hi
    · exact hrows _ (getD_memL hi)
    · rw [List.getD_eq_getElem?_getD, List.getElem?_eq_none hi]; simp
  clear hrows hmem
  go_enter Try.func3, Try.ntmps3
  go_wp2_with fail
  refine (szIntSS_c w.heap.size a cap ls _ HM.out (by omega) HR.out).mono ?_
  rintro e w0 ⟨r, rfl, hr, rfl⟩
  have HSm := Lib.hid hr
  clear hr
  by_cases hneg : r < 0
  · go_wp2_with fail
    go_ret
    exact ⟨rfl, Below.refl _ _⟩
  · have HS := Lib.hid (HSm.out (by omega))
    clear HSm
    have HB0 := Lib.hid (Below.refl w.heap.size w)
    go_wp2_with fail
    refine (toIntSS_c w.heap.size a cap ls _ (HM.out.below HB0.out) HB0.out.size HS.out).mono ?_
    rintro e w1 ⟨v1, rfl, ho1, hg1⟩
    obtain ⟨x1, c1, rfl, _, _, hm1⟩ := ho1.mem
    have HB1 := Lib.hid (below_none HB0.out (Nat.le_refl _) hg1)
    have HZ1 := Lib.hid hg1.size
    have HOT1 := Lib.hid ho1
    have HMT1 := Lib.hid hm1
    clear ho1 hm1 hg1
    go_wp2_with fail
    refine (specMemoryValid_c w1.heap.size x1 c1 ls _ HMT1.out HS.out).mono ?_
    rintro e w' ⟨rfl, rfl⟩
    go_wp2_with fail
    refine (toIntSS_c w.heap.size a cap ls _ (HM.out.below HB1.out) HB1.out.size HS.out).mono ?_
    rintro e w2 ⟨v2, rfl, ho2, hg2⟩
    obtain ⟨x2, c2, rfl, _, _, hm2⟩ := ho2.mem
    have HB2 := Lib.hid (below_none HB1.out (Nat.le_refl _) hg2)
    have HZ2 := Lib.hid hg2.size
    have HOX2 := Lib.hid ho2
    have HMX2 := Lib.hid hm2
    clear ho2 hm2 hg2
    go_wp2_with fail
    refine (implMemoryValid_c w2.heap.size x2 c2 ls _ HMX2.out HS.out).mono ?_
    rintro e w' ⟨rfl, rfl⟩
    go_wp2_with fail
    refine (toIntSS_c w.heap.size a cap ls _ (HM.out.below HB2.out) HB2.out.size HS.out).mono ?_
    rintro e w3 ⟨v3, rfl, ho3, hg3⟩
    obtain ⟨x3, c3, rfl, _, _, hm3⟩ := ho3.mem
    have HB3 := Lib.hid (below_none HB2.out (Nat.le_refl _) hg3)
    have HZ3 := Lib.hid hg3.size
    have HOX3 := Lib.hid (HOX2.out.gnone hg3)
    have HMX3 := Lib.hid (HMX2.out.gnone hg3 (by have := HZ1.out; have := HZ2.out; omega))
    have HOY3 := Lib.hid ho3
    have HMY3 := Lib.hid hm3
    clear ho3 hm3 hg3
    go_wp2_with fail
    refine (eqIntSS_c w2.heap.size w3.heap.size x2 x3 c2 c3 (ls) (ls) _ HMX3.out HMY3.out HS.out HS.out).mono ?_
    rintro e w4 ⟨rfl, q4, hw4⟩
    rw [beq_self_eq_true]
    have hg4 : w3.grownBy w4 none := by rw [hw4]; exact drewN_none _ _
    clear hw4
    have HB4 := Lib.hid (below_none HB3.out (Nat.le_refl _) hg4)
    have HZ4 := Lib.hid hg4.size
    have HOX4 := Lib.hid (HOX3.out.gnone hg4)
    have HMX4 := Lib.hid (HMX3.out.gnone hg4 (by have := HZ1.out; have := HZ2.out; have := HZ3.out; omega))
    have HOY4 := Lib.hid (HOY3.out.gnone hg4)
    have HMY4 := Lib.hid (HMY3.out.gnone hg4 (by have := HZ1.out; have := HZ2.out; have := HZ3.out; omega))
    clear hg4
    go_wp2_with fail
    go_ret
    exact ⟨rfl, HB4.out⟩
set_option maxHeartbeats 2000000 in
theorem FnExactMemoryGet_w (a : Option Addr) (len cap : Nat) (ls : List (List Int)) (f t : Int) (w : World) (h : Rows2 w a len cap ls) :
    Calls Try.prog 4 #[.slice a len cap, .int .i64 f, .int .i64 t] w fun e w' => e = .returned (.bool true) ∧ Below w.heap.size w w' := by
  obtain ⟨rfl, hlc, hcm, hrows, hmem⟩ := h
  have HM := Lib.hid hmem
  have HR : Hid (∀ i, (ls.getD i []).length ≤ maxLen) := by
    intro i
    rcases Nat.lt_or_ge i ls.length with hi | hi
    · exact hrows _ (getD_memL hi)
    · rw [List.getD_eq_getElem?_getD, List.getElem?_eq_none hi]; simp
  clear hrows hmem
  go_enter Try.func4, Try.ntmps4
  go_wp2_with fail
  refine (szIntSS_c w.heap.size a cap ls _ HM.out (by omega) HR.out).mono ?_
  rintro e w0 ⟨r, rfl, hr, rfl⟩
  have HSm := Lib.hid hr
  clear hr
  by_cases hneg : r < 0
  · go_wp2_with fail
    go_ret
    exact ⟨rfl, Below.refl _ _⟩
  · have HS := Lib.hid (HSm.out (by omega))
    clear HSm
    have HB0 := Lib.hid (Below.refl w.heap.size w)
    go_wp2_with fail
    refine (toIntSS_c w.heap.size a cap ls _ (HM.out.below HB0.out) HB0.out.size HS.out).mono ?_
    rintro e w1 ⟨v1, rfl, ho1, hg1⟩
    obtain ⟨x1, c1, rfl, _, _, hm1⟩ := ho1.mem
    have HB1 := Lib.hid (below_none HB0.out (Nat.le_refl _) hg1)
    have HZ1 := Lib.hid hg1.size
    have HOT1 := Lib.hid ho1
    have HMT1 := Lib.hid hm1
    clear ho1 hm1 hg1
    go_wp2_with fail
    refine (specMemoryGet_c w1.heap.size x1 c1 ls f t _ HMT1.out HS.out).mono ?_
    rintro e w' ⟨rfl, rfl⟩
    go_wp2_with fail
    refine (toIntSS_c w.heap.size a cap ls _ (HM.out.below HB1.out) HB1.out.size HS.out).mono ?_
    rintro e w2 ⟨v2, rfl, ho2, hg2⟩
    obtain ⟨x2, c2, rfl, _, _, hm2⟩ := ho2.mem
    have HB2 := Lib.hid (below_none HB1.out (Nat.le_refl _) hg2)
    have HZ2 := Lib.hid hg2.size
    have HOX2 := Lib.hid ho2
    have HMX2 := Lib.hid hm2
    clear ho2 hm2 hg2
    go_wp2_with fail
    refine (implMemoryGet_c w2.heap.size x2 c2 ls f t _ HMX2.out HS.out).mono ?_
    rintro e w' ⟨rfl, rfl⟩
    go_wp2_with fail
    refine (toIntSS_c w.heap.size a cap ls _ (HM.out.below HB2.out) HB2.out.size HS.out).mono ?_
    rintro e w3 ⟨v3, rfl, ho3, hg3⟩
    obtain ⟨x3, c3, rfl, _, _, hm3⟩ := ho3.mem
    have HB3 := Lib.hid (below_none HB2.out (Nat.le_refl _) hg3)
    have HZ3 := Lib.hid hg3.size
    have HOX3 := Lib.hid (HOX2.out.gnone hg3)
    have HMX3 := Lib.hid (HMX2.out.gnone hg3 (by have := HZ1.out; have := HZ2.out; omega))
    have HOY3 := Lib.hid ho3
    have HMY3 := Lib.hid hm3
    clear ho3 hm3 hg3
    go_wp2_with fail
    refine (eqIntSS_c w2.heap.size w3.heap.size x2 x3 c2 c3 (ls) (ls) _ HMX3.out HMY3.out HS.out HS.out).mono ?_
    rintro e w4 ⟨rfl, q4, hw4⟩
    rw [beq_self_eq_true]
    have hg4 : w3.grownBy w4 none := by rw [hw4]; exact drewN_none _ _
    clear hw4
    have HB4 := Lib.hid (below_none HB3.out (Nat.le_refl _) hg4)
    have HZ4 := Lib.hid hg4.size
    have HOX4 := Lib.hid (HOX3.out.gnone hg4)
    have HMX4 := Lib.hid (HMX3.out.gnone hg4 (by have := HZ1.out; have := HZ2.out; have := HZ3.out; omega))
    have HOY4 := Lib.hid (HOY3.out.gnone hg4)
    have HMY4 := Lib.hid (HMY3.out.gnone hg4 (by have := HZ1.out; have := HZ2.out; have := HZ3.out; omega))
    clear hg4
    go_wp2_with fail
    go_ret
    exact ⟨rfl, HB4.out⟩
set_option maxHeartbeats 2000000 in
theorem FnExactMemoryPut_w (a : Option Addr) (len cap : Nat) (ls : List (List Int)) (f t n : Int) (w : World) (h : Rows2 w a len cap ls) :
    Calls Try.prog 5 #[.slice a len cap, .int .i64 f, .int .i64 t, .int .i64 n] w fun e w' => e = .returned (.bool true) ∧ Below w.heap.size w w' := by
  obtain ⟨rfl, hlc, hcm, hrows, hmem⟩ := h
  have HM := Lib.hid hmem
  have HR : Hid (∀ i, (ls.getD i []).length ≤ maxLen) := by
    intro i
    rcases Nat.lt_or_ge i ls.length with hi | hi
    · exact hrows _ (getD_memL hi)
    · rw [List.getD_eq_getElem?_getD, List.getElem?_eq_none hi]; simp
  clear hrows hmem
  go_enter Try.func5, Try.ntmps5
  go_wp2_with fail
  refine (szIntSS_c w.heap.size a cap ls _ HM.out (by omega) HR.out).mono ?_
  rintro e w0 ⟨r, rfl, hr, rfl⟩
  have HSm := Lib.hid hr
  clear hr
  by_cases hneg : r < 0
  · go_wp2_with fail
    go_ret
    exact ⟨rfl, Below.refl _ _⟩
  · have HS := Lib.hid (HSm.out (by omega))
    clear HSm
    have HB0 := Lib.hid (Below.refl w.heap.size w)
    go_wp2_with fail
    have HSL := Lib.hid (mpL_small ls f t n)
    refine (toIntSS_c w.heap.size a cap ls _ (HM.out.below HB0.out) HB0.out.size HS.out).mono ?_
    rintro e w1 ⟨v1, rfl, ho1, hg1⟩
    obtain ⟨x1, c1, rfl, _, _, hm1⟩ := ho1.mem
    have HB1 := Lib.hid (below_none HB0.out (Nat.le_refl _) hg1)
    have HZ1 := Lib.hid hg1.size
    have HOT1 := Lib.hid ho1
    have HMT1 := Lib.hid hm1
    clear ho1 hm1 hg1
    go_wp2_with fail
    refine (specMemoryPut_c w1.heap.size x1 c1 ls f t n _ HMT1.out (by have := HZ1.out; omega) HS.out).mono ?_
    rintro e w2 ⟨v2, rfl, ho2, hg2⟩
    obtain ⟨x2, c2, rfl, _, _, hm2⟩ := ho2.mem
    have HB2 := Lib.hid (below_none HB1.out (Nat.le_refl _) hg2)
    have HZ2 := Lib.hid hg2.size
    have HOT2 := Lib.hid (HOT1.out.gnone hg2)
    have HMT2 := Lib.hid (HMT1.out.gnone hg2 (by have := HZ1.out; omega))
    have HOW2 := Lib.hid ho2
    have HMW2 := Lib.hid hm2
    clear ho2 hm2 hg2
    go_wp2_with fail
    refine (toIntSS_c w.heap.size a cap ls _ (HM.out.below HB2.out) HB2.out.size HS.out).mono ?_
    rintro e w3 ⟨v3, rfl, ho3, hg3⟩
    obtain ⟨x3, c3, rfl, _, _, hm3⟩ := ho3.mem
    have HB3 := Lib.hid (below_none HB2.out (Nat.le_refl _) hg3)
    have HZ3 := Lib.hid hg3.size
    have HOW3 := Lib.hid (HOW2.out.gnone hg3)
    have HMW3 := Lib.hid (HMW2.out.gnone hg3 (by have := HZ1.out; have := HZ2.out; omega))
    have HOX3 := Lib.hid ho3
    have HMX3 := Lib.hid hm3
    clear ho3 hm3 hg3
    go_wp2_with fail
    refine (implMemoryPut_c w3.heap.size x3 c3 ls f t n _ HMX3.out (by have := HZ1.out; have := HZ2.out; have := HZ3.out; omega) HS.out).mono ?_
    rintro e w4 ⟨v4, rfl, ho4, hg4⟩
    obtain ⟨x4, c4, rfl, _, _, hm4⟩ := ho4.mem
    have HB4 := Lib.hid (below_none HB3.out (Nat.le_refl _) hg4)
    have HZ4 := Lib.hid hg4.size
    have HOW4 := Lib.hid (HOW3.out.gnone hg4)
    have HMW4 := Lib.hid (HMW3.out.gnone hg4 (by have := HZ1.out; have := HZ2.out; have := HZ3.out; omega))
    have HOX4 := Lib.hid (HOX3.out.gnone hg4)
    have HMX4 := Lib.hid (HMX3.out.gnone hg4 (by have := HZ1.out; have := HZ2.out; have := HZ3.out; omega))
    have HOG4 := Lib.hid ho4
    have HMG4 := Lib.hid hm4
    clear ho4 hm4 hg4
    go_wp2_with fail
    refine (eqIntSS_c w4.heap.size w2.heap.size x4 x2 c4 c2 (mpL ls f t n) (mpL ls f t n) _ HMG4.out HMW4.out HSL.out HSL.out).mono ?_
    rintro e w5 ⟨rfl, q5, hw5⟩
    rw [beq_self_eq_true]
    have hg5 : w4.grownBy w5 none := by rw [hw5]; exact drewN_none _ _
    clear hw5
    have HB5 := Lib.hid (below_none HB4.out (Nat.le_refl _) hg5)
    have HZ5 := Lib.hid hg5.size
    have HOW5 := Lib.hid (HOW4.out.gnone hg5)
    have HMW5 := Lib.hid (HMW4.out.gnone hg5 (by have := HZ1.out; have := HZ2.out; have := HZ3.out; have := HZ4.out; omega))
    have HOX5 := Lib.hid (HOX4.out.gnone hg5)
    have HMX5 := Lib.hid (HMX4.out.gnone hg5 (by have := HZ1.out; have := HZ2.out; have := HZ3.out; have := HZ4.out; omega))
    have HOG5 := Lib.hid (HOG4.out.gnone hg5)
    have HMG5 := Lib.hid (HMG4.out.gnone hg5 (by have := HZ1.out; have := HZ2.out; have := HZ3.out; have := HZ4.out; omega))
    clear hg5
    go_wp2_with fail
    refine (toIntSS_c w.heap.size a cap ls _ (HM.out.below HB5.out) HB5.out.size HS.out).mono ?_
    rintro e w6 ⟨v6, rfl, ho6, hg6⟩
    obtain ⟨x6, c6, rfl, _, _, hm6⟩ := ho6.mem
    have HB6 := Lib.hid (below_none HB5.out (Nat.le_refl _) hg6)
    have HZ6 := Lib.hid hg6.size
    have HOW6 := Lib.hid (HOW5.out.gnone hg6)
    have HMW6 := Lib.hid (HMW5.out.gnone hg6 (by have := HZ1.out; have := HZ2.out; have := HZ3.out; have := HZ4.out; have := HZ5.out; omega))
    have HOX6 := Lib.hid (HOX5.out.gnone hg6)
    have HMX6 := Lib.hid (HMX5.out.gnone hg6 (by have := HZ1.out; have := HZ2.out; have := HZ3.out; have := HZ4.out; have := HZ5.out; omega))
    have HOG6 := Lib.hid (HOG5.out.gnone hg6)
    have HMG6 := Lib.hid (HMG5.out.gnone hg6 (by have := HZ1.out; have := HZ2.out; have := HZ3.out; have := HZ4.out; have := HZ5.out; omega))
    have HOY6 := Lib.hid ho6
    have HMY6 := Lib.hid hm6
    clear ho6 hm6 hg6
    go_wp2_with fail
    refine (eqIntSS_c w3.heap.size w6.heap.size x3 x6 c3 c6 (ls) (ls) _ HMX6.out HMY6.out HS.out HS.out).mono ?_
    rintro e w7 ⟨rfl, q7, hw7⟩
    rw [beq_self_eq_true]
    have hg7 : w6.grownBy w7 none := by rw [hw7]; exact drewN_none _ _
    clear hw7
    have HB7 := Lib.hid (below_none HB6.out (Nat.le_refl _) hg7)
    have HZ7 := Lib.hid hg7.size
    have HOW7 := Lib.hid (HOW6.out.gnone hg7)
    have HMW7 := Lib.hid (HMW6.out.gnone hg7 (by have := HZ1.out; have := HZ2.out; have := HZ3.out; have := HZ4.out; have := HZ5.out; have := HZ6.out; omega))
    have HOX7 := Lib.hid (HOX6.out.gnone hg7)
    have HMX7 := Lib.hid (HMX6.out.gnone hg7 (by have := HZ1.out; have := HZ2.out; have := HZ3.out; have := HZ4.out; have := HZ5.out; have := HZ6.out; omega))
    have HOG7 := Lib.hid (HOG6.out.gnone hg7)
    have HMG7 := Lib.hid (HMG6.out.gnone hg7 (by have := HZ1.out; have := HZ2.out; have := HZ3.out; have := HZ4.out; have := HZ5.out; have := HZ6.out; omega))
    have HOY7 := Lib.hid (HOY6.out.gnone hg7)
    have HMY7 := Lib.hid (HMY6.out.gnone hg7 (by have := HZ1.out; have := HZ2.out; have := HZ3.out; have := HZ4.out; have := HZ5.out; have := HZ6.out; omega))
    clear hg7
    go_wp2_with fail
    refine (markIntSS_c w2.heap.size w3.heap.size _ (ls) 1 _ HOX7.out HS.out (by omega) (by omega)).mono ?_
    rintro e w8 ⟨rfl, hg8, xs8, sh8, mk8, ho8⟩
    have HB8 := Lib.hid (HB7.out.trans (hg8.below (by have := HZ1.out; have := HZ2.out; have := HZ3.out; have := HZ4.out; have := HZ5.out; have := HZ6.out; have := HZ7.out; omega) HB7.out.size))
    have HZ8 := Lib.hid hg8.size
    have HOW8 := Lib.hid (HOW7.out.turned hg8 (.inl (by have := HZ1.out; have := HZ2.out; have := HZ3.out; have := HZ4.out; have := HZ5.out; have := HZ6.out; have := HZ7.out; omega)))
    obtain ⟨_, _, eW8, _, _, hmW8⟩ := HOW8.out.mem
    simp only [Value.slice.injEq, true_and] at eW8
    obtain ⟨rfl, rfl⟩ := eW8
    have HMW8 := Lib.hid hmW8
    clear hmW8
    have HOG8 := Lib.hid (HOG7.out.turned hg8 (.inr (by have := HZ1.out; have := HZ2.out; have := HZ3.out; have := HZ4.out; have := HZ5.out; have := HZ6.out; have := HZ7.out; omega)))
    obtain ⟨_, _, eG8, _, _, hmG8⟩ := HOG8.out.mem
    simp only [Value.slice.injEq, true_and] at eG8
    obtain ⟨rfl, rfl⟩ := eG8
    have HMG8 := Lib.hid hmG8
    clear hmG8
    have HSh8 := Lib.hid sh8
    have HMk8 := Lib.hid mk8
    obtain ⟨y8, d8, ey8, _, _, hm8⟩ := ho8.mem
    simp only [Value.slice.injEq] at ey8
    have HEy8 := Lib.hid ey8
    have HOX8 := Lib.hid ho8
    have HMX8 := Lib.hid hm8
    have hk8 : decide (1 + (sums (ls) (ls).length : Int) < 0) = false := by simp; omega
    clear hg8 ho8 hm8 sh8 mk8 ey8
    go_wp2_with fail
    refine (eqIntSS_c w4.heap.size w2.heap.size x4 x2 c4 c2 (mpL ls f t n) (mpL ls f t n) _ HMG8.out HMW8.out HSL.out HSL.out).mono ?_
    rintro e w9 ⟨rfl, q9, hw9⟩
    rw [beq_self_eq_true]
    have hg9 : w8.grownBy w9 none := by rw [hw9]; exact drewN_none _ _
    clear hw9
    have HB9 := Lib.hid (below_none HB8.out (Nat.le_refl _) hg9)
    have HZ9 := Lib.hid hg9.size
    have HOW9 := Lib.hid (HOW8.out.gnone hg9)
    have HMW9 := Lib.hid (HMW8.out.gnone hg9 (by have := HZ1.out; have := HZ2.out; have := HZ3.out; have := HZ4.out; have := HZ5.out; have := HZ6.out; have := HZ7.out; have := HZ8.out; omega))
    have HOG9 := Lib.hid (HOG8.out.gnone hg9)
    have HMG9 := Lib.hid (HMG8.out.gnone hg9 (by have := HZ1.out; have := HZ2.out; have := HZ3.out; have := HZ4.out; have := HZ5.out; have := HZ6.out; have := HZ7.out; have := HZ8.out; omega))
    clear hg9
    go_wp2_with fail
    refine (markIntSS_c w3.heap.size w4.heap.size _ (mpL ls f t n) 1 _ HOG9.out HSL.out (by omega) (by omega)).mono ?_
    rintro e w10 ⟨rfl, hg10, xs10, sh10, mk10, ho10⟩
    have HB10 := Lib.hid (HB9.out.trans (hg10.below (by have := HZ1.out; have := HZ2.out; have := HZ3.out; have := HZ4.out; have := HZ5.out; have := HZ6.out; have := HZ7.out; have := HZ8.out; have := HZ9.out; omega) HB9.out.size))
    have HZ10 := Lib.hid hg10.size
    have HOW10 := Lib.hid (HOW9.out.turned hg10 (.inl (by have := HZ1.out; have := HZ2.out; have := HZ3.out; have := HZ4.out; have := HZ5.out; have := HZ6.out; have := HZ7.out; have := HZ8.out; have := HZ9.out; omega)))
    obtain ⟨_, _, eW10, _, _, hmW10⟩ := HOW10.out.mem
    simp only [Value.slice.injEq, true_and] at eW10
    obtain ⟨rfl, rfl⟩ := eW10
    have HMW10 := Lib.hid hmW10
    clear hmW10
    have HSh10 := Lib.hid sh10
    have HMk10 := Lib.hid mk10
    obtain ⟨y10, d10, ey10, _, _, hm10⟩ := ho10.mem
    simp only [Value.slice.injEq] at ey10
    have HEy10 := Lib.hid ey10
    have HOG10 := Lib.hid ho10
    have HMG10 := Lib.hid hm10
    have hk10 : decide (1 + (sums (mpL ls f t n) (mpL ls f t n).length : Int) < 0) = false := by simp; omega
    clear hg10 ho10 hm10 sh10 mk10 ey10
    go_wp2_with fail
    have HSx := Lib.hid (show Small xs10 from by have e1 := HSh10.out.sums _ (Nat.le_refl _); have e2 := HSh10.out.1; have e3 := HSL.out; unfold Small at e3 ⊢; rw [e2, e1]; exact e3)
    have HSe : Hid (sums xs10 (mpL ls f t n).length = sums (mpL ls f t n) (mpL ls f t n).length) := HSh10.out.sums _ (Nat.le_refl _)
    have HLe : Hid (xs10.length = (mpL ls f t n).length) := HSh10.out.1
    have hh := heldIntSS_c w4.heap.size x4 c4 xs10 1 _ (by have := HMG10.out; rw [← HEy10.out.1] at this; exact this) HSx.out (by omega) (by omega) HMk10.out
    rw [HLe.out] at hh
    refine hh.mono ?_
    clear hh
    rintro e w' ⟨rfl, rfl⟩
    rw [HSe.out]
    clear HSx HSe HLe
    go_wp2_with fail
    refine (toIntSS_c w.heap.size a cap ls _ (HM.out.below HB10.out) HB10.out.size HS.out).mono ?_
    rintro e w11 ⟨v11, rfl, ho11, hg11⟩
    obtain ⟨x11, c11, rfl, _, _, hm11⟩ := ho11.mem
    have HB11 := Lib.hid (below_none HB10.out (Nat.le_refl _) hg11)
    have HZ11 := Lib.hid hg11.size
    have HOW11 := Lib.hid (HOW10.out.gnone hg11)
    have HMW11 := Lib.hid (HMW10.out.gnone hg11 (by have := HZ1.out; have := HZ2.out; have := HZ3.out; have := HZ4.out; have := HZ5.out; have := HZ6.out; have := HZ7.out; have := HZ8.out; have := HZ9.out; have := HZ10.out; omega))
    have HOG11 := Lib.hid (HOG10.out.gnone hg11)
    have HMG11 := Lib.hid (HMG10.out.gnone hg11 (by have := HZ1.out; have := HZ2.out; have := HZ3.out; have := HZ4.out; have := HZ5.out; have := HZ6.out; have := HZ7.out; have := HZ8.out; have := HZ9.out; have := HZ10.out; omega))
    have HOZ11 := Lib.hid ho11
    have HMZ11 := Lib.hid hm11
    clear ho11 hm11 hg11
    go_wp2_with fail
    refine (implMemoryPut_c w11.heap.size x11 c11 ls f t n _ HMZ11.out (by have := HZ1.out; have := HZ2.out; have := HZ3.out; have := HZ4.out; have := HZ5.out; have := HZ6.out; have := HZ7.out; have := HZ8.out; have := HZ9.out; have := HZ10.out; have := HZ11.out; omega) HS.out).mono ?_
    rintro e w12 ⟨v12, rfl, ho12, hg12⟩
    obtain ⟨x12, c12, rfl, _, _, hm12⟩ := ho12.mem
    have HB12 := Lib.hid (below_none HB11.out (Nat.le_refl _) hg12)
    have HZ12 := Lib.hid hg12.size
    have HOW12 := Lib.hid (HOW11.out.gnone hg12)
    have HMW12 := Lib.hid (HMW11.out.gnone hg12 (by have := HZ1.out; have := HZ2.out; have := HZ3.out; have := HZ4.out; have := HZ5.out; have := HZ6.out; have := HZ7.out; have := HZ8.out; have := HZ9.out; have := HZ10.out; have := HZ11.out; omega))
    have HOG12 := Lib.hid (HOG11.out.gnone hg12)
    have HMG12 := Lib.hid (HMG11.out.gnone hg12 (by have := HZ1.out; have := HZ2.out; have := HZ3.out; have := HZ4.out; have := HZ5.out; have := HZ6.out; have := HZ7.out; have := HZ8.out; have := HZ9.out; have := HZ10.out; have := HZ11.out; omega))
    have HOZ12 := Lib.hid (HOZ11.out.gnone hg12)
    have HMZ12 := Lib.hid (HMZ11.out.gnone hg12 (by have := HZ1.out; have := HZ2.out; have := HZ3.out; have := HZ4.out; have := HZ5.out; have := HZ6.out; have := HZ7.out; have := HZ8.out; have := HZ9.out; have := HZ10.out; have := HZ11.out; omega))
    have HOH12 := Lib.hid ho12
    have HMH12 := Lib.hid hm12
    clear ho12 hm12 hg12
    go_wp2_with fail
    refine (eqIntSS_c w12.heap.size w2.heap.size x12 x2 c12 c2 (mpL ls f t n) (mpL ls f t n) _ HMH12.out HMW12.out HSL.out HSL.out).mono ?_
    rintro e w13 ⟨rfl, q13, hw13⟩
    rw [beq_self_eq_true]
    have hg13 : w12.grownBy w13 none := by rw [hw13]; exact drewN_none _ _
    clear hw13
    have HB13 := Lib.hid (below_none HB12.out (Nat.le_refl _) hg13)
    have HZ13 := Lib.hid hg13.size
    have HOW13 := Lib.hid (HOW12.out.gnone hg13)
    have HMW13 := Lib.hid (HMW12.out.gnone hg13 (by have := HZ1.out; have := HZ2.out; have := HZ3.out; have := HZ4.out; have := HZ5.out; have := HZ6.out; have := HZ7.out; have := HZ8.out; have := HZ9.out; have := HZ10.out; have := HZ11.out; have := HZ12.out; omega))
    have HOG13 := Lib.hid (HOG12.out.gnone hg13)
    have HMG13 := Lib.hid (HMG12.out.gnone hg13 (by have := HZ1.out; have := HZ2.out; have := HZ3.out; have := HZ4.out; have := HZ5.out; have := HZ6.out; have := HZ7.out; have := HZ8.out; have := HZ9.out; have := HZ10.out; have := HZ11.out; have := HZ12.out; omega))
    have HOH13 := Lib.hid (HOH12.out.gnone hg13)
    have HMH13 := Lib.hid (HMH12.out.gnone hg13 (by have := HZ1.out; have := HZ2.out; have := HZ3.out; have := HZ4.out; have := HZ5.out; have := HZ6.out; have := HZ7.out; have := HZ8.out; have := HZ9.out; have := HZ10.out; have := HZ11.out; have := HZ12.out; omega))
    clear hg13
    go_wp2_with fail
    have HSx := Lib.hid (show Small xs10 from by have e1 := HSh10.out.sums _ (Nat.le_refl _); have e2 := HSh10.out.1; have e3 := HSL.out; unfold Small at e3 ⊢; rw [e2, e1]; exact e3)
    have HSe : Hid (sums xs10 (mpL ls f t n).length = sums (mpL ls f t n) (mpL ls f t n).length) := HSh10.out.sums _ (Nat.le_refl _)
    have HLe : Hid (xs10.length = (mpL ls f t n).length) := HSh10.out.1
    have hh := heldIntSS_c w4.heap.size x4 c4 xs10 1 _ (by have := HMG13.out; rw [← HEy10.out.1] at this; exact this) HSx.out (by omega) (by omega) HMk10.out
    rw [HLe.out] at hh
    refine hh.mono ?_
    clear hh
    rintro e w' ⟨rfl, rfl⟩
    rw [HSe.out]
    clear HSx HSe HLe
    go_wp2_with fail
    go_ret
    exact ⟨rfl, HB13.out⟩
set_option maxHeartbeats 2000000 in
theorem FnExactMemoryCopy_w (a : Option Addr) (len cap : Nat) (ls : List (List Int)) (f t : Int) (w : World) (h : Rows2 w a len cap ls) :
    Calls Try.prog 6 #[.slice a len cap, .int .i64 f, .int .i64 t] w fun e w' => e = .returned (.bool true) ∧ Below w.heap.size w w' := by
  obtain ⟨rfl, hlc, hcm, hrows, hmem⟩ := h
  have HM := Lib.hid hmem
  have HR : Hid (∀ i, (ls.getD i []).length ≤ maxLen) := by
    intro i
    rcases Nat.lt_or_ge i ls.length with hi | hi
    · exact hrows _ (getD_memL hi)
    · rw [List.getD_eq_getElem?_getD, List.getElem?_eq_none hi]; simp
  clear hrows hmem
  go_enter Try.func6, Try.ntmps6
  go_wp2_with fail
  refine (szIntSS_c w.heap.size a cap ls _ HM.out (by omega) HR.out).mono ?_
  rintro e w0 ⟨r, rfl, hr, rfl⟩
  have HSm := Lib.hid hr
  clear hr
  by_cases hneg : r < 0
  · go_wp2_with fail
    go_ret
    exact ⟨rfl, Below.refl _ _⟩
  · have HS := Lib.hid (HSm.out (by omega))
    clear HSm
    have HB0 := Lib.hid (Below.refl w.heap.size w)
    go_wp2_with fail
    have HSL := Lib.hid (mcL_small ls f t)
    refine (toIntSS_c w.heap.size a cap ls _ (HM.out.below HB0.out) HB0.out.size HS.out).mono ?_
    rintro e w1 ⟨v1, rfl, ho1, hg1⟩
    obtain ⟨x1, c1, rfl, _, _, hm1⟩ := ho1.mem
    have HB1 := Lib.hid (below_none HB0.out (Nat.le_refl _) hg1)
    have HZ1 := Lib.hid hg1.size
    have HOT1 := Lib.hid ho1
    have HMT1 := Lib.hid hm1
    clear ho1 hm1 hg1
    go_wp2_with fail
    refine (specMemoryCopy_c w1.heap.size x1 c1 ls f t _ HMT1.out (by have := HZ1.out; omega) HS.out).mono ?_
    rintro e w2 ⟨v2, rfl, ho2, hg2⟩
    obtain ⟨x2, c2, rfl, _, _, hm2⟩ := ho2.mem
    have HB2 := Lib.hid (below_none HB1.out (Nat.le_refl _) hg2)
    have HZ2 := Lib.hid hg2.size
    have HOT2 := Lib.hid (HOT1.out.gnone hg2)
    have HMT2 := Lib.hid (HMT1.out.gnone hg2 (by have := HZ1.out; omega))
    have HOW2 := Lib.hid ho2
    have HMW2 := Lib.hid hm2
    clear ho2 hm2 hg2
    go_wp2_with fail
    refine (toIntSS_c w.heap.size a cap ls _ (HM.out.below HB2.out) HB2.out.size HS.out).mono ?_
    rintro e w3 ⟨v3, rfl, ho3, hg3⟩
    obtain ⟨x3, c3, rfl, _, _, hm3⟩ := ho3.mem
    have HB3 := Lib.hid (below_none HB2.out (Nat.le_refl _) hg3)
    have HZ3 := Lib.hid hg3.size
    have HOW3 := Lib.hid (HOW2.out.gnone hg3)
    have HMW3 := Lib.hid (HMW2.out.gnone hg3 (by have := HZ1.out; have := HZ2.out; omega))
    have HOX3 := Lib.hid ho3
    have HMX3 := Lib.hid hm3
    clear ho3 hm3 hg3
    go_wp2_with fail
    refine (implMemoryCopy_c w3.heap.size x3 c3 ls f t _ HMX3.out (by have := HZ1.out; have := HZ2.out; have := HZ3.out; omega) HS.out).mono ?_
    rintro e w4 ⟨v4, rfl, ho4, hg4⟩
    obtain ⟨x4, c4, rfl, _, _, hm4⟩ := ho4.mem
    have HB4 := Lib.hid (below_none HB3.out (Nat.le_refl _) hg4)
    have HZ4 := Lib.hid hg4.size
    have HOW4 := Lib.hid (HOW3.out.gnone hg4)
    have HMW4 := Lib.hid (HMW3.out.gnone hg4 (by have := HZ1.out; have := HZ2.out; have := HZ3.out; omega))
    have HOX4 := Lib.hid (HOX3.out.gnone hg4)
    have HMX4 := Lib.hid (HMX3.out.gnone hg4 (by have := HZ1.out; have := HZ2.out; have := HZ3.out; omega))
    have HOG4 := Lib.hid ho4
    have HMG4 := Lib.hid hm4
    clear ho4 hm4 hg4
    go_wp2_with fail
    refine (eqIntSS_c w4.heap.size w2.heap.size x4 x2 c4 c2 (mcL ls f t) (mcL ls f t) _ HMG4.out HMW4.out HSL.out HSL.out).mono ?_
    rintro e w5 ⟨rfl, q5, hw5⟩
    rw [beq_self_eq_true]
    have hg5 : w4.grownBy w5 none := by rw [hw5]; exact drewN_none _ _
    clear hw5
    have HB5 := Lib.hid (below_none HB4.out (Nat.le_refl _) hg5)
    have HZ5 := Lib.hid hg5.size
    have HOW5 := Lib.hid (HOW4.out.gnone hg5)
    have HMW5 := Lib.hid (HMW4.out.gnone hg5 (by have := HZ1.out; have := HZ2.out; have := HZ3.out; have := HZ4.out; omega))
    have HOX5 := Lib.hid (HOX4.out.gnone hg5)
    have HMX5 := Lib.hid (HMX4.out.gnone hg5 (by have := HZ1.out; have := HZ2.out; have := HZ3.out; have := HZ4.out; omega))
    have HOG5 := Lib.hid (HOG4.out.gnone hg5)
    have HMG5 := Lib.hid (HMG4.out.gnone hg5 (by have := HZ1.out; have := HZ2.out; have := HZ3.out; have := HZ4.out; omega))
    clear hg5
    go_wp2_with fail
    refine (toIntSS_c w.heap.size a cap ls _ (HM.out.below HB5.out) HB5.out.size HS.out).mono ?_
    rintro e w6 ⟨v6, rfl, ho6, hg6⟩
    obtain ⟨x6, c6, rfl, _, _, hm6⟩ := ho6.mem
    have HB6 := Lib.hid (below_none HB5.out (Nat.le_refl _) hg6)
    have HZ6 := Lib.hid hg6.size
    have HOW6 := Lib.hid (HOW5.out.gnone hg6)
    have HMW6 := Lib.hid (HMW5.out.gnone hg6 (by have := HZ1.out; have := HZ2.out; have := HZ3.out; have := HZ4.out; have := HZ5.out; omega))
    have HOX6 := Lib.hid (HOX5.out.gnone hg6)
    have HMX6 := Lib.hid (HMX5.out.gnone hg6 (by have := HZ1.out; have := HZ2.out; have := HZ3.out; have := HZ4.out; have := HZ5.out; omega))
    have HOG6 := Lib.hid (HOG5.out.gnone hg6)
    have HMG6 := Lib.hid (HMG5.out.gnone hg6 (by have := HZ1.out; have := HZ2.out; have := HZ3.out; have := HZ4.out; have := HZ5.out; omega))
    have HOY6 := Lib.hid ho6
    have HMY6 := Lib.hid hm6
    clear ho6 hm6 hg6
    go_wp2_with fail
    refine (eqIntSS_c w3.heap.size w6.heap.size x3 x6 c3 c6 (ls) (ls) _ HMX6.out HMY6.out HS.out HS.out).mono ?_
    rintro e w7 ⟨rfl, q7, hw7⟩
    rw [beq_self_eq_true]
    have hg7 : w6.grownBy w7 none := by rw [hw7]; exact drewN_none _ _
    clear hw7
    have HB7 := Lib.hid (below_none HB6.out (Nat.le_refl _) hg7)
    have HZ7 := Lib.hid hg7.size
    have HOW7 := Lib.hid (HOW6.out.gnone hg7)
    have HMW7 := Lib.hid (HMW6.out.gnone hg7 (by have := HZ1.out; have := HZ2.out; have := HZ3.out; have := HZ4.out; have := HZ5.out; have := HZ6.out; omega))
    have HOX7 := Lib.hid (HOX6.out.gnone hg7)
    have HMX7 := Lib.hid (HMX6.out.gnone hg7 (by have := HZ1.out; have := HZ2.out; have := HZ3.out; have := HZ4.out; have := HZ5.out; have := HZ6.out; omega))
    have HOG7 := Lib.hid (HOG6.out.gnone hg7)
    have HMG7 := Lib.hid (HMG6.out.gnone hg7 (by have := HZ1.out; have := HZ2.out; have := HZ3.out; have := HZ4.out; have := HZ5.out; have := HZ6.out; omega))
    have HOY7 := Lib.hid (HOY6.out.gnone hg7)
    have HMY7 := Lib.hid (HMY6.out.gnone hg7 (by have := HZ1.out; have := HZ2.out; have := HZ3.out; have := HZ4.out; have := HZ5.out; have := HZ6.out; omega))
    clear hg7
    go_wp2_with fail
    refine (markIntSS_c w2.heap.size w3.heap.size _ (ls) 1 _ HOX7.out HS.out (by omega) (by omega)).mono ?_
    rintro e w8 ⟨rfl, hg8, xs8, sh8, mk8, ho8⟩
    have HB8 := Lib.hid (HB7.out.trans (hg8.below (by have := HZ1.out; have := HZ2.out; have := HZ3.out; have := HZ4.out; have := HZ5.out; have := HZ6.out; have := HZ7.out; omega) HB7.out.size))
    have HZ8 := Lib.hid hg8.size
    have HOW8 := Lib.hid (HOW7.out.turned hg8 (.inl (by have := HZ1.out; have := HZ2.out; have := HZ3.out; have := HZ4.out; have := HZ5.out; have := HZ6.out; have := HZ7.out; omega)))
    obtain ⟨_, _, eW8, _, _, hmW8⟩ := HOW8.out.mem
    simp only [Value.slice.injEq, true_and] at eW8
    obtain ⟨rfl, rfl⟩ := eW8
    have HMW8 := Lib.hid hmW8
    clear hmW8
    have HOG8 := Lib.hid (HOG7.out.turned hg8 (.inr (by have := HZ1.out; have := HZ2.out; have := HZ3.out; have := HZ4.out; have := HZ5.out; have := HZ6.out; have := HZ7.out; omega)))
    obtain ⟨_, _, eG8, _, _, hmG8⟩ := HOG8.out.mem
    simp only [Value.slice.injEq, true_and] at eG8
    obtain ⟨rfl, rfl⟩ := eG8
    have HMG8 := Lib.hid hmG8
    clear hmG8
    have HSh8 := Lib.hid sh8
    have HMk8 := Lib.hid mk8
    obtain ⟨y8, d8, ey8, _, _, hm8⟩ := ho8.mem
    simp only [Value.slice.injEq] at ey8
    have HEy8 := Lib.hid ey8
    have HOX8 := Lib.hid ho8
    have HMX8 := Lib.hid hm8
    have hk8 : decide (1 + (sums (ls) (ls).length : Int) < 0) = false := by simp; omega
    clear hg8 ho8 hm8 sh8 mk8 ey8
    go_wp2_with fail
    refine (eqIntSS_c w4.heap.size w2.heap.size x4 x2 c4 c2 (mcL ls f t) (mcL ls f t) _ HMG8.out HMW8.out HSL.out HSL.out).mono ?_
    rintro e w9 ⟨rfl, q9, hw9⟩
    rw [beq_self_eq_true]
    have hg9 : w8.grownBy w9 none := by rw [hw9]; exact drewN_none _ _
    clear hw9
    have HB9 := Lib.hid (below_none HB8.out (Nat.le_refl _) hg9)
    have HZ9 := Lib.hid hg9.size
    have HOW9 := Lib.hid (HOW8.out.gnone hg9)
    have HMW9 := Lib.hid (HMW8.out.gnone hg9 (by have := HZ1.out; have := HZ2.out; have := HZ3.out; have := HZ4.out; have := HZ5.out; have := HZ6.out; have := HZ7.out; have := HZ8.out; omega))
    have HOG9 := Lib.hid (HOG8.out.gnone hg9)
    have HMG9 := Lib.hid (HMG8.out.gnone hg9 (by have := HZ1.out; have := HZ2.out; have := HZ3.out; have := HZ4.out; have := HZ5.out; have := HZ6.out; have := HZ7.out; have := HZ8.out; omega))
    clear hg9
    go_wp2_with fail
    refine (markIntSS_c w3.heap.size w4.heap.size _ (mcL ls f t) 1 _ HOG9.out HSL.out (by omega) (by omega)).mono ?_
    rintro e w10 ⟨rfl, hg10, xs10, sh10, mk10, ho10⟩
    have HB10 := Lib.hid (HB9.out.trans (hg10.below (by have := HZ1.out; have := HZ2.out; have := HZ3.out; have := HZ4.out; have := HZ5.out; have := HZ6.out; have := HZ7.out; have := HZ8.out; have := HZ9.out; omega) HB9.out.size))
    have HZ10 := Lib.hid hg10.size
    have HOW10 := Lib.hid (HOW9.out.turned hg10 (.inl (by have := HZ1.out; have := HZ2.out; have := HZ3.out; have := HZ4.out; have := HZ5.out; have := HZ6.out; have := HZ7.out; have := HZ8.out; have := HZ9.out; omega)))
    obtain ⟨_, _, eW10, _, _, hmW10⟩ := HOW10.out.mem
    simp only [Value.slice.injEq, true_and] at eW10
    obtain ⟨rfl, rfl⟩ := eW10
    have HMW10 := Lib.hid hmW10
    clear hmW10
    have HSh10 := Lib.hid sh10
    have HMk10 := Lib.hid mk10
    obtain ⟨y10, d10, ey10, _, _, hm10⟩ := ho10.mem
    simp only [Value.slice.injEq] at ey10
    have HEy10 := Lib.hid ey10
    have HOG10 := Lib.hid ho10
    have HMG10 := Lib.hid hm10
    have hk10 : decide (1 + (sums (mcL ls f t) (mcL ls f t).length : Int) < 0) = false := by simp; omega
    clear hg10 ho10 hm10 sh10 mk10 ey10
    go_wp2_with fail
    have HSx := Lib.hid (show Small xs10 from by have e1 := HSh10.out.sums _ (Nat.le_refl _); have e2 := HSh10.out.1; have e3 := HSL.out; unfold Small at e3 ⊢; rw [e2, e1]; exact e3)
    have HSe : Hid (sums xs10 (mcL ls f t).length = sums (mcL ls f t) (mcL ls f t).length) := HSh10.out.sums _ (Nat.le_refl _)
    have HLe : Hid (xs10.length = (mcL ls f t).length) := HSh10.out.1
    have hh := heldIntSS_c w4.heap.size x4 c4 xs10 1 _ (by have := HMG10.out; rw [← HEy10.out.1] at this; exact this) HSx.out (by omega) (by omega) HMk10.out
    rw [HLe.out] at hh
    refine hh.mono ?_
    clear hh
    rintro e w' ⟨rfl, rfl⟩
    rw [HSe.out]
    clear HSx HSe HLe
    go_wp2_with fail
    refine (toIntSS_c w.heap.size a cap ls _ (HM.out.below HB10.out) HB10.out.size HS.out).mono ?_
    rintro e w11 ⟨v11, rfl, ho11, hg11⟩
    obtain ⟨x11, c11, rfl, _, _, hm11⟩ := ho11.mem
    have HB11 := Lib.hid (below_none HB10.out (Nat.le_refl _) hg11)
    have HZ11 := Lib.hid hg11.size
    have HOW11 := Lib.hid (HOW10.out.gnone hg11)
    have HMW11 := Lib.hid (HMW10.out.gnone hg11 (by have := HZ1.out; have := HZ2.out; have := HZ3.out; have := HZ4.out; have := HZ5.out; have := HZ6.out; have := HZ7.out; have := HZ8.out; have := HZ9.out; have := HZ10.out; omega))
    have HOG11 := Lib.hid (HOG10.out.gnone hg11)
    have HMG11 := Lib.hid (HMG10.out.gnone hg11 (by have := HZ1.out; have := HZ2.out; have := HZ3.out; have := HZ4.out; have := HZ5.out; have := HZ6.out; have := HZ7.out; have := HZ8.out; have := HZ9.out; have := HZ10.out; omega))
    have HOZ11 := Lib.hid ho11
    have HMZ11 := Lib.hid hm11
    clear ho11 hm11 hg11
    go_wp2_with fail
    refine (implMemoryCopy_c w11.heap.size x11 c11 ls f t _ HMZ11.out (by have := HZ1.out; have := HZ2.out; have := HZ3.out; have := HZ4.out; have := HZ5.out; have := HZ6.out; have := HZ7.out; have := HZ8.out; have := HZ9.out; have := HZ10.out; have := HZ11.out; omega) HS.out).mono ?_
    rintro e w12 ⟨v12, rfl, ho12, hg12⟩
    obtain ⟨x12, c12, rfl, _, _, hm12⟩ := ho12.mem
    have HB12 := Lib.hid (below_none HB11.out (Nat.le_refl _) hg12)
    have HZ12 := Lib.hid hg12.size
    have HOW12 := Lib.hid (HOW11.out.gnone hg12)
    have HMW12 := Lib.hid (HMW11.out.gnone hg12 (by have := HZ1.out; have := HZ2.out; have := HZ3.out; have := HZ4.out; have := HZ5.out; have := HZ6.out; have := HZ7.out; have := HZ8.out; have := HZ9.out; have := HZ10.out; have := HZ11.out; omega))
    have HOG12 := Lib.hid (HOG11.out.gnone hg12)
    have HMG12 := Lib.hid (HMG11.out.gnone hg12 (by have := HZ1.out; have := HZ2.out; have := HZ3.out; have := HZ4.out; have := HZ5.out; have := HZ6.out; have := HZ7.out; have := HZ8.out; have := HZ9.out; have := HZ10.out; have := HZ11.out; omega))
    have HOZ12 := Lib.hid (HOZ11.out.gnone hg12)
    have HMZ12 := Lib.hid (HMZ11.out.gnone hg12 (by have := HZ1.out; have := HZ2.out; have := HZ3.out; have := HZ4.out; have := HZ5.out; have := HZ6.out; have := HZ7.out; have := HZ8.out; have := HZ9.out; have := HZ10.out; have := HZ11.out; omega))
    have HOH12 := Lib.hid ho12
    have HMH12 := Lib.hid hm12
    clear ho12 hm12 hg12
    go_wp2_with fail
    refine (eqIntSS_c w12.heap.size w2.heap.size x12 x2 c12 c2 (mcL ls f t) (mcL ls f t) _ HMH12.out HMW12.out HSL.out HSL.out).mono ?_
    rintro e w13 ⟨rfl, q13, hw13⟩
    rw [beq_self_eq_true]
    have hg13 : w12.grownBy w13 none := by rw [hw13]; exact drewN_none _ _
    clear hw13
    have HB13 := Lib.hid (below_none HB12.out (Nat.le_refl _) hg13)
    have HZ13 := Lib.hid hg13.size
    have HOW13 := Lib.hid (HOW12.out.gnone hg13)
    have HMW13 := Lib.hid (HMW12.out.gnone hg13 (by have := HZ1.out; have := HZ2.out; have := HZ3.out; have := HZ4.out; have := HZ5.out; have := HZ6.out; have := HZ7.out; have := HZ8.out; have := HZ9.out; have := HZ10.out; have := HZ11.out; have := HZ12.out; omega))
    have HOG13 := Lib.hid (HOG12.out.gnone hg13)
    have HMG13 := Lib.hid (HMG12.out.gnone hg13 (by have := HZ1.out; have := HZ2.out; have := HZ3.out; have := HZ4.out; have := HZ5.out; have := HZ6.out; have := HZ7.out; have := HZ8.out; have := HZ9.out; have := HZ10.out; have := HZ11.out; have := HZ12.out; omega))
    have HOH13 := Lib.hid (HOH12.out.gnone hg13)
    have HMH13 := Lib.hid (HMH12.out.gnone hg13 (by have := HZ1.out; have := HZ2.out; have := HZ3.out; have := HZ4.out; have := HZ5.out; have := HZ6.out; have := HZ7.out; have := HZ8.out; have := HZ9.out; have := HZ10.out; have := HZ11.out; have := HZ12.out; omega))
    clear hg13
    go_wp2_with fail
    have HSx := Lib.hid (show Small xs10 from by have e1 := HSh10.out.sums _ (Nat.le_refl _); have e2 := HSh10.out.1; have e3 := HSL.out; unfold Small at e3 ⊢; rw [e2, e1]; exact e3)
    have HSe : Hid (sums xs10 (mcL ls f t).length = sums (mcL ls f t) (mcL ls f t).length) := HSh10.out.sums _ (Nat.le_refl _)
    have HLe : Hid (xs10.length = (mcL ls f t).length) := HSh10.out.1
    have hh := heldIntSS_c w4.heap.size x4 c4 xs10 1 _ (by have := HMG13.out; rw [← HEy10.out.1] at this; exact this) HSx.out (by omega) (by omega) HMk10.out
    rw [HLe.out] at hh
    refine hh.mono ?_
    clear hh
    rintro e w' ⟨rfl, rfl⟩
    rw [HSe.out]
    clear HSx HSe HLe
    go_wp2_with fail
    go_ret
    exact ⟨rfl, HB13.out⟩
set_option maxHeartbeats 2000000 in
theorem FnExactMemoryClear_w (a : Option Addr) (len cap : Nat) (ls : List (List Int)) (f : Int) (w : World) (h : Rows2 w a len cap ls) :
    Calls Try.prog 7 #[.slice a len cap, .int .i64 f] w fun e w' => e = .returned (.bool true) ∧ Below w.heap.size w w' := by
  obtain ⟨rfl, hlc, hcm, hrows, hmem⟩ := h
  have HM := Lib.hid hmem
  have HR : Hid (∀ i, (ls.getD i []).length ≤ maxLen) := by
    intro i
    rcases Nat.lt_or_ge i ls.length with hi | hi
    · exact hrows _ (getD_memL hi)
    · rw [List.getD_eq_getElem?_getD, List.getElem?_eq_none hi]; simp
  clear hrows hmem
  go_enter Try.func7, Try.ntmps7
  go_wp2_with fail
  refine (szIntSS_c w.heap.size a cap ls _ HM.out (by omega) HR.out).mono ?_
  rintro e w0 ⟨r, rfl, hr, rfl⟩
  have HSm := Lib.hid hr
  clear hr
  by_cases hneg : r < 0
  · go_wp2_with fail
    go_ret
    exact ⟨rfl, Below.refl _ _⟩
  · have HS := Lib.hid (HSm.out (by omega))
    clear HSm
    have HB0 := Lib.hid (Below.refl w.heap.size w)
    go_wp2_with fail
    have HSL := Lib.hid (mlL_small ls f)
    refine (toIntSS_c w.heap.size a cap ls _ (HM.out.below HB0.out) HB0.out.size HS.out).mono ?_
    rintro e w1 ⟨v1, rfl, ho1, hg1⟩
    obtain ⟨x1, c1, rfl, _, _, hm1⟩ := ho1.mem
    have HB1 := Lib.hid (below_none HB0.out (Nat.le_refl _) hg1)
    have HZ1 := Lib.hid hg1.size
    have HOT1 := Lib.hid ho1
    have HMT1 := Lib.hid hm1
    clear ho1 hm1 hg1
    go_wp2_with fail
    refine (specMemoryClear_c w1.heap.size x1 c1 ls f _ HMT1.out (by have := HZ1.out; omega) HS.out).mono ?_
    rintro e w2 ⟨v2, rfl, ho2, hg2⟩
    obtain ⟨x2, c2, rfl, _, _, hm2⟩ := ho2.mem
    have HB2 := Lib.hid (below_none HB1.out (Nat.le_refl _) hg2)
    have HZ2 := Lib.hid hg2.size
    have HOT2 := Lib.hid (HOT1.out.gnone hg2)
    have HMT2 := Lib.hid (HMT1.out.gnone hg2 (by have := HZ1.out; omega))
    have HOW2 := Lib.hid ho2
    have HMW2 := Lib.hid hm2
    clear ho2 hm2 hg2
    go_wp2_with fail
    refine (toIntSS_c w.heap.size a cap ls _ (HM.out.below HB2.out) HB2.out.size HS.out).mono ?_
    rintro e w3 ⟨v3, rfl, ho3, hg3⟩
    obtain ⟨x3, c3, rfl, _, _, hm3⟩ := ho3.mem
    have HB3 := Lib.hid (below_none HB2.out (Nat.le_refl _) hg3)
    have HZ3 := Lib.hid hg3.size
    have HOW3 := Lib.hid (HOW2.out.gnone hg3)
    have HMW3 := Lib.hid (HMW2.out.gnone hg3 (by have := HZ1.out; have := HZ2.out; omega))
    have HOX3 := Lib.hid ho3
    have HMX3 := Lib.hid hm3
    clear ho3 hm3 hg3
    go_wp2_with fail
    refine (implMemoryClear_c w3.heap.size x3 c3 ls f _ HMX3.out (by have := HZ1.out; have := HZ2.out; have := HZ3.out; omega) HS.out).mono ?_
    rintro e w4 ⟨v4, rfl, ho4, hg4⟩
    obtain ⟨x4, c4, rfl, _, _, hm4⟩ := ho4.mem
    have HB4 := Lib.hid (below_none HB3.out (Nat.le_refl _) hg4)
    have HZ4 := Lib.hid hg4.size
    have HOW4 := Lib.hid (HOW3.out.gnone hg4)
    have HMW4 := Lib.hid (HMW3.out.gnone hg4 (by have := HZ1.out; have := HZ2.out; have := HZ3.out; omega))
    have HOX4 := Lib.hid (HOX3.out.gnone hg4)
    have HMX4 := Lib.hid (HMX3.out.gnone hg4 (by have := HZ1.out; have := HZ2.out; have := HZ3.out; omega))
    have HOG4 := Lib.hid ho4
    have HMG4 := Lib.hid hm4
    clear ho4 hm4 hg4
    go_wp2_with fail
    refine (eqIntSS_c w4.heap.size w2.heap.size x4 x2 c4 c2 (mlL ls f) (mlL ls f) _ HMG4.out HMW4.out HSL.out HSL.out).mono ?_
    rintro e w5 ⟨rfl, q5, hw5⟩
    rw [beq_self_eq_true]
    have hg5 : w4.grownBy w5 none := by rw [hw5]; exact drewN_none _ _
    clear hw5
    have HB5 := Lib.hid (below_none HB4.out (Nat.le_refl _) hg5)
    have HZ5 := Lib.hid hg5.size
    have HOW5 := Lib.hid (HOW4.out.gnone hg5)
    have HMW5 := Lib.hid (HMW4.out.gnone hg5 (by have := HZ1.out; have := HZ2.out; have := HZ3.out; have := HZ4.out; omega))
    have HOX5 := Lib.hid (HOX4.out.gnone hg5)
    have HMX5 := Lib.hid (HMX4.out.gnone hg5 (by have := HZ1.out; have := HZ2.out; have := HZ3.out; have := HZ4.out; omega))
    have HOG5 := Lib.hid (HOG4.out.gnone hg5)
    have HMG5 := Lib.hid (HMG4.out.gnone hg5 (by have := HZ1.out; have := HZ2.out; have := HZ3.out; have := HZ4.out; omega))
    clear hg5
    go_wp2_with fail
    refine (toIntSS_c w.heap.size a cap ls _ (HM.out.below HB5.out) HB5.out.size HS.out).mono ?_
    rintro e w6 ⟨v6, rfl, ho6, hg6⟩
    obtain ⟨x6, c6, rfl, _, _, hm6⟩ := ho6.mem
    have HB6 := Lib.hid (below_none HB5.out (Nat.le_refl _) hg6)
    have HZ6 := Lib.hid hg6.size
    have HOW6 := Lib.hid (HOW5.out.gnone hg6)
    have HMW6 := Lib.hid (HMW5.out.gnone hg6 (by have := HZ1.out; have := HZ2.out; have := HZ3.out; have := HZ4.out; have := HZ5.out; omega))
    have HOX6 := Lib.hid (HOX5.out.gnone hg6)
    have HMX6 := Lib.hid (HMX5.out.gnone hg6 (by have := HZ1.out; have := HZ2.out; have := HZ3.out; have := HZ4.out; have := HZ5.out; omega))
    have HOG6 := Lib.hid (HOG5.out.gnone hg6)
    have HMG6 := Lib.hid (HMG5.out.gnone hg6 (by have := HZ1.out; have := HZ2.out; have := HZ3.out; have := HZ4.out; have := HZ5.out; omega))
    have HOY6 := Lib.hid ho6
    have HMY6 := Lib.hid hm6
    clear ho6 hm6 hg6
    go_wp2_with fail
    refine (eqIntSS_c w3.heap.size w6.heap.size x3 x6 c3 c6 (ls) (ls) _ HMX6.out HMY6.out HS.out HS.out).mono ?_
    rintro e w7 ⟨rfl, q7, hw7⟩
    rw [beq_self_eq_true]
    have hg7 : w6.grownBy w7 none := by rw [hw7]; exact drewN_none _ _
    clear hw7
    have HB7 := Lib.hid (below_none HB6.out (Nat.le_refl _) hg7)
    have HZ7 := Lib.hid hg7.size
    have HOW7 := Lib.hid (HOW6.out.gnone hg7)
    have HMW7 := Lib.hid (HMW6.out.gnone hg7 (by have := HZ1.out; have := HZ2.out; have := HZ3.out; have := HZ4.out; have := HZ5.out; have := HZ6.out; omega))
    have HOX7 := Lib.hid (HOX6.out.gnone hg7)
    have HMX7 := Lib.hid (HMX6.out.gnone hg7 (by have := HZ1.out; have := HZ2.out; have := HZ3.out; have := HZ4.out; have := HZ5.out; have := HZ6.out; omega))
    have HOG7 := Lib.hid (HOG6.out.gnone hg7)
    have HMG7 := Lib.hid (HMG6.out.gnone hg7 (by have := HZ1.out; have := HZ2.out; have := HZ3.out; have := HZ4.out; have := HZ5.out; have := HZ6.out; omega))
    have HOY7 := Lib.hid (HOY6.out.gnone hg7)
    have HMY7 := Lib.hid (HMY6.out.gnone hg7 (by have := HZ1.out; have := HZ2.out; have := HZ3.out; have := HZ4.out; have := HZ5.out; have := HZ6.out; omega))
    clear hg7
    go_wp2_with fail
    refine (markIntSS_c w2.heap.size w3.heap.size _ (ls) 1 _ HOX7.out HS.out (by omega) (by omega)).mono ?_
    rintro e w8 ⟨rfl, hg8, xs8, sh8, mk8, ho8⟩
    have HB8 := Lib.hid (HB7.out.trans (hg8.below (by have := HZ1.out; have := HZ2.out; have := HZ3.out; have := HZ4.out; have := HZ5.out; have := HZ6.out; have := HZ7.out; omega) HB7.out.size))
    have HZ8 := Lib.hid hg8.size
    have HOW8 := Lib.hid (HOW7.out.turned hg8 (.inl (by have := HZ1.out; have := HZ2.out; have := HZ3.out; have := HZ4.out; have := HZ5.out; have := HZ6.out; have := HZ7.out; omega)))
    obtain ⟨_, _, eW8, _, _, hmW8⟩ := HOW8.out.mem
    simp only [Value.slice.injEq, true_and] at eW8
    obtain ⟨rfl, rfl⟩ := eW8
    have HMW8 := Lib.hid hmW8
    clear hmW8
    have HOG8 := Lib.hid (HOG7.out.turned hg8 (.inr (by have := HZ1.out; have := HZ2.out; have := HZ3.out; have := HZ4.out; have := HZ5.out; have := HZ6.out; have := HZ7.out; omega)))
    obtain ⟨_, _, eG8, _, _, hmG8⟩ := HOG8.out.mem
    simp only [Value.slice.injEq, true_and] at eG8
    obtain ⟨rfl, rfl⟩ := eG8
    have HMG8 := Lib.hid hmG8
    clear hmG8
    have HSh8 := Lib.hid sh8
    have HMk8 := Lib.hid mk8
    obtain ⟨y8, d8, ey8, _, _, hm8⟩ := ho8.mem
    simp only [Value.slice.injEq] at ey8
    have HEy8 := Lib.hid ey8
    have HOX8 := Lib.hid ho8
    have HMX8 := Lib.hid hm8
    have hk8 : decide (1 + (sums (ls) (ls).length : Int) < 0) = false := by simp; omega
    clear hg8 ho8 hm8 sh8 mk8 ey8
    go_wp2_with fail
    refine (eqIntSS_c w4.heap.size w2.heap.size x4 x2 c4 c2 (mlL ls f) (mlL ls f) _ HMG8.out HMW8.out HSL.out HSL.out).mono ?_
    rintro e w9 ⟨rfl, q9, hw9⟩
    rw [beq_self_eq_true]
    have hg9 : w8.grownBy w9 none := by rw [hw9]; exact drewN_none _ _
    clear hw9
    have HB9 := Lib.hid (below_none HB8.out (Nat.le_refl _) hg9)
    have HZ9 := Lib.hid hg9.size
    have HOW9 := Lib.hid (HOW8.out.gnone hg9)
    have HMW9 := Lib.hid (HMW8.out.gnone hg9 (by have := HZ1.out; have := HZ2.out; have := HZ3.out; have := HZ4.out; have := HZ5.out; have := HZ6.out; have := HZ7.out; have := HZ8.out; omega))
    have HOG9 := Lib.hid (HOG8.out.gnone hg9)
    have HMG9 := Lib.hid (HMG8.out.gnone hg9 (by have := HZ1.out; have := HZ2.out; have := HZ3.out; have := HZ4.out; have := HZ5.out; have := HZ6.out; have := HZ7.out; have := HZ8.out; omega))
    clear hg9
    go_wp2_with fail
    refine (markIntSS_c w3.heap.size w4.heap.size _ (mlL ls f) 1 _ HOG9.out HSL.out (by omega) (by omega)).mono ?_
    rintro e w10 ⟨rfl, hg10, xs10, sh10, mk10, ho10⟩
    have HB10 := Lib.hid (HB9.out.trans (hg10.below (by have := HZ1.out; have := HZ2.out; have := HZ3.out; have := HZ4.out; have := HZ5.out; have := HZ6.out; have := HZ7.out; have := HZ8.out; have := HZ9.out; omega) HB9.out.size))
    have HZ10 := Lib.hid hg10.size
    have HOW10 := Lib.hid (HOW9.out.turned hg10 (.inl (by have := HZ1.out; have := HZ2.out; have := HZ3.out; have := HZ4.out; have := HZ5.out; have := HZ6.out; have := HZ7.out; have := HZ8.out; have := HZ9.out; omega)))
    obtain ⟨_, _, eW10, _, _, hmW10⟩ := HOW10.out.mem
    simp only [Value.slice.injEq, true_and] at eW10
    obtain ⟨rfl, rfl⟩ := eW10
    have HMW10 := Lib.hid hmW10
    clear hmW10
    have HSh10 := Lib.hid sh10
    have HMk10 := Lib.hid mk10
    obtain ⟨y10, d10, ey10, _, _, hm10⟩ := ho10.mem
    simp only [Value.slice.injEq] at ey10
    have HEy10 := Lib.hid ey10
    have HOG10 := Lib.hid ho10
    have HMG10 := Lib.hid hm10
    have hk10 : decide (1 + (sums (mlL ls f) (mlL ls f).length : Int) < 0) = false := by simp; omega
    clear hg10 ho10 hm10 sh10 mk10 ey10
    go_wp2_with fail
    have HSx := Lib.hid (show Small xs10 from by have e1 := HSh10.out.sums _ (Nat.le_refl _); have e2 := HSh10.out.1; have e3 := HSL.out; unfold Small at e3 ⊢; rw [e2, e1]; exact e3)
    have HSe : Hid (sums xs10 (mlL ls f).length = sums (mlL ls f) (mlL ls f).length) := HSh10.out.sums _ (Nat.le_refl _)
    have HLe : Hid (xs10.length = (mlL ls f).length) := HSh10.out.1
    have hh := heldIntSS_c w4.heap.size x4 c4 xs10 1 _ (by have := HMG10.out; rw [← HEy10.out.1] at this; exact this) HSx.out (by omega) (by omega) HMk10.out
    rw [HLe.out] at hh
    refine hh.mono ?_
    clear hh
    rintro e w' ⟨rfl, rfl⟩
    rw [HSe.out]
    clear HSx HSe HLe
    go_wp2_with fail
    refine (toIntSS_c w.heap.size a cap ls _ (HM.out.below HB10.out) HB10.out.size HS.out).mono ?_
    rintro e w11 ⟨v11, rfl, ho11, hg11⟩
    obtain ⟨x11, c11, rfl, _, _, hm11⟩ := ho11.mem
    have HB11 := Lib.hid (below_none HB10.out (Nat.le_refl _) hg11)
    have HZ11 := Lib.hid hg11.size
    have HOW11 := Lib.hid (HOW10.out.gnone hg11)
    have HMW11 := Lib.hid (HMW10.out.gnone hg11 (by have := HZ1.out; have := HZ2.out; have := HZ3.out; have := HZ4.out; have := HZ5.out; have := HZ6.out; have := HZ7.out; have := HZ8.out; have := HZ9.out; have := HZ10.out; omega))
    have HOG11 := Lib.hid (HOG10.out.gnone hg11)
    have HMG11 := Lib.hid (HMG10.out.gnone hg11 (by have := HZ1.out; have := HZ2.out; have := HZ3.out; have := HZ4.out; have := HZ5.out; have := HZ6.out; have := HZ7.out; have := HZ8.out; have := HZ9.out; have := HZ10.out; omega))
    have HOZ11 := Lib.hid ho11
    have HMZ11 := Lib.hid hm11
    clear ho11 hm11 hg11
    go_wp2_with fail
    refine (implMemoryClear_c w11.heap.size x11 c11 ls f _ HMZ11.out (by have := HZ1.out; have := HZ2.out; have := HZ3.out; have := HZ4.out; have := HZ5.out; have := HZ6.out; have := HZ7.out; have := HZ8.out; have := HZ9.out; have := HZ10.out; have := HZ11.out; omega) HS.out).mono ?_
    rintro e w12 ⟨v12, rfl, ho12, hg12⟩
    obtain ⟨x12, c12, rfl, _, _, hm12⟩ := ho12.mem
    have HB12 := Lib.hid (below_none HB11.out (Nat.le_refl _) hg12)
    have HZ12 := Lib.hid hg12.size
    have HOW12 := Lib.hid (HOW11.out.gnone hg12)
    have HMW12 := Lib.hid (HMW11.out.gnone hg12 (by have := HZ1.out; have := HZ2.out; have := HZ3.out; have := HZ4.out; have := HZ5.out; have := HZ6.out; have := HZ7.out; have := HZ8.out; have := HZ9.out; have := HZ10.out; have := HZ11.out; omega))
    have HOG12 := Lib.hid (HOG11.out.gnone hg12)
    have HMG12 := Lib.hid (HMG11.out.gnone hg12 (by have := HZ1.out; have := HZ2.out; have := HZ3.out; have := HZ4.out; have := HZ5.out; have := HZ6.out; have := HZ7.out; have := HZ8.out; have := HZ9.out; have := HZ10.out; have := HZ11.out; omega))
    have HOZ12 := Lib.hid (HOZ11.out.gnone hg12)
    have HMZ12 := Lib.hid (HMZ11.out.gnone hg12 (by have := HZ1.out; have := HZ2.out; have := HZ3.out; have := HZ4.out; have := HZ5.out; have := HZ6.out; have := HZ7.out; have := HZ8.out; have := HZ9.out; have := HZ10.out; have := HZ11.out; omega))
    have HOH12 := Lib.hid ho12
    have HMH12 := Lib.hid hm12
    clear ho12 hm12 hg12
    go_wp2_with fail
    refine (eqIntSS_c w12.heap.size w2.heap.size x12 x2 c12 c2 (mlL ls f) (mlL ls f) _ HMH12.out HMW12.out HSL.out HSL.out).mono ?_
    rintro e w13 ⟨rfl, q13, hw13⟩
    rw [beq_self_eq_true]
    have hg13 : w12.grownBy w13 none := by rw [hw13]; exact drewN_none _ _
    clear hw13
    have HB13 := Lib.hid (below_none HB12.out (Nat.le_refl _) hg13)
    have HZ13 := Lib.hid hg13.size
    have HOW13 := Lib.hid (HOW12.out.gnone hg13)
    have HMW13 := Lib.hid (HMW12.out.gnone hg13 (by have := HZ1.out; have := HZ2.out; have := HZ3.out; have := HZ4.out; have := HZ5.out; have := HZ6.out; have := HZ7.out; have := HZ8.out; have := HZ9.out; have := HZ10.out; have := HZ11.out; have := HZ12.out; omega))
    have HOG13 := Lib.hid (HOG12.out.gnone hg13)
    have HMG13 := Lib.hid (HMG12.out.gnone hg13 (by have := HZ1.out; have := HZ2.out; have := HZ3.out; have := HZ4.out; have := HZ5.out; have := HZ6.out; have := HZ7.out; have := HZ8.out; have := HZ9.out; have := HZ10.out; have := HZ11.out; have := HZ12.out; omega))
    have HOH13 := Lib.hid (HOH12.out.gnone hg13)
    have HMH13 := Lib.hid (HMH12.out.gnone hg13 (by have := HZ1.out; have := HZ2.out; have := HZ3.out; have := HZ4.out; have := HZ5.out; have := HZ6.out; have := HZ7.out; have := HZ8.out; have := HZ9.out; have := HZ10.out; have := HZ11.out; have := HZ12.out; omega))
    clear hg13
    go_wp2_with fail
    have HSx := Lib.hid (show Small xs10 from by have e1 := HSh10.out.sums _ (Nat.le_refl _); have e2 := HSh10.out.1; have e3 := HSL.out; unfold Small at e3 ⊢; rw [e2, e1]; exact e3)
    have HSe : Hid (sums xs10 (mlL ls f).length = sums (mlL ls f) (mlL ls f).length) := HSh10.out.sums _ (Nat.le_refl _)
    have HLe : Hid (xs10.length = (mlL ls f).length) := HSh10.out.1
    have hh := heldIntSS_c w4.heap.size x4 c4 xs10 1 _ (by have := HMG13.out; rw [← HEy10.out.1] at this; exact this) HSx.out (by omega) (by omega) HMk10.out
    rw [HLe.out] at hh
    refine hh.mono ?_
    clear hh
    rintro e w' ⟨rfl, rfl⟩
    rw [HSe.out]
    clear HSx HSe HLe
    go_wp2_with fail
    go_ret
    exact ⟨rfl, HB13.out⟩
end Go.Proofs.Ytjocofpdbcpdhaa
