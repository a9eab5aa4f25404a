/-
  The walks of the exact laws on the frames that a memory names: each returns true and writes nothing that was there. No conditions.
-/
import Derived.Test.YtejibbgoniecaaaOpenM
import Derived.Test.YtejibbgoniecaaaMemOwn
import Derived.Test.YtejibbgoniecaaaNamFn
namespace Go.Proofs.Ytejibbgoniecaaa
open Go.RowKit

theorem IntsB.gnone {w w' : World} {B : Nat} {a : Option Addr} {l : List Int} (h : IntsB w B a l) (hg : w.grownBy w' none) (hB : B ≤ w.heap.size) : IntsB w' B a l := h.kept fun j hj => hg.block j (by omega) (fun e => by cases e)
theorem heldIntS_k (a : Option Addr) (cap : Nat) (l : List Int) (m : Nat) (n : Int) (w : World) (h : Ints w a l) (hl : l.length = m) (hm : m ≤ 1048576) (h0 : 0 ≤ n) (h1 : n ≤ 1000000000) (hM : ∀ j, j < m → l.getD j 0 = n + j) :
    Calls Try.prog 13 #[.slice a m cap, .int .i64 n] w fun e w' => e = .returned (.int .i64 (n + m)) ∧ w = w' := by
  subst hl
  exact heldIntS_c a cap l n w h hm h0 h1 hM
theorem wf_len (ls : List (List Int)) (r : Int) : (wfL ls r).length ≤ 12 := by
  rcases h : okB ls r
  · rw [wf_no h]; simp
  · rw [wf_yes h]; exact srtP_len _ _
set_option maxHeartbeats 2000000 in
theorem FnExactWalkTables_w (a : Option Addr) (len cap : Nat) (ls : List (List Int)) (r0 : Int) (w : World) (h : Rows2 w a len cap ls) :
    Calls Try.prog 3 #[.slice a len cap, .int .i64 r0] w fun e w' => e = .returned (.bool true) ∧ Below w.heap.size w w' := by
  obtain ⟨rfl, hlc, hcm, hrows, hmem⟩ := h
  have HM := Lib.hid hmem
  have HR : Hid (∀ i, (ls.getD i []).length ≤ maxLen) := by
    intro i
    rcases Nat.lt_or_ge i ls.length with hi | hi
    · exact hrows _ (getD_memL hi)
    · rw [List.getD_eq_getElem?_getD, List.getElem?_eq_none hi]; simp
  clear hrows hmem
  go_enter Try.func3, Try.ntmps3
  go_wp2_with fail
  refine (szIntSS_c w.heap.size a cap ls _ HM.out (by omega) HR.out).mono ?_
  rintro e w0 ⟨r, rfl, hr, rfl⟩
  have HSm := Lib.hid hr
  clear hr
  by_cases hneg : r < 0
  · go_wp2_with fail
    go_ret
    exact ⟨rfl, Below.refl _ _⟩
  · have HS := Lib.hid (HSm.out (by omega))
    clear HSm
    have HB0 := Lib.hid (Below.refl w.heap.size w)
    have HSL : Hid ((wtL ls r0).length ≤ 1048576) := Nat.le_trans (wt_len ls r0) (by omega)
    go_wp2_with fail
    refine (toIntSS_c w.heap.size a cap ls _ (HM.out.below HB0.out) HB0.out.size HS.out).mono ?_
    rintro e w1 ⟨v1, rfl, ho1, hg1⟩
    obtain ⟨x1, c1, rfl, _, _, hm1⟩ := ho1.mem
    have HB1 := Lib.hid (below_none HB0.out (Nat.le_refl _) hg1)
    have HZ1 := Lib.hid hg1.size
    have HOT1 := Lib.hid ho1
    have HMT1 := Lib.hid hm1
    clear ho1 hm1 hg1
    go_wp2_with fail
    refine (specWalkTables_c w1.heap.size x1 c1 ls r0 _ HMT1.out (by have := HZ1.out; omega) HS.out).mono ?_
    rintro e w2 ⟨v2, rfl, ho2, hg2⟩
    have hh2 : ∀ g, v2.ownBlock = some g → g < w2.heap.size := fun g e => (OwnI.lt ho2 g e).2
    obtain ⟨x2, c2, rfl, _, _, hm2⟩ := ho2.intsB hh2
    have HHW := Lib.hid hh2
    have HB2 := Lib.hid (below_none HB1.out (Nat.le_refl _) hg2)
    have HZ2 := Lib.hid hg2.size
    have HOT2 := Lib.hid (HOT1.out.gnone hg2)
    have HMT2 := Lib.hid (HMT1.out.gnone hg2 (by have := HZ1.out; omega))
    have HOW2 := Lib.hid ho2
    have HMW2 := Lib.hid hm2
    clear ho2 hm2 hg2 hh2
    go_wp2_with fail
    refine (toIntSS_c w.heap.size a cap ls _ (HM.out.below HB2.out) HB2.out.size HS.out).mono ?_
    rintro e w3 ⟨v3, rfl, ho3, hg3⟩
    obtain ⟨x3, c3, rfl, _, _, hm3⟩ := ho3.mem
    have HB3 := Lib.hid (below_none HB2.out (Nat.le_refl _) hg3)
    have HZ3 := Lib.hid hg3.size
    have HOW3 := Lib.hid (HOW2.out.keptN hg3)
    have HMW3 := Lib.hid (HMW2.out.gnone hg3 (by have := HZ1.out; have := HZ2.out; omega))
    have HOX3 := Lib.hid ho3
    have HMX3 := Lib.hid hm3
    clear ho3 hm3 hg3
    go_wp2_with fail
    refine (implWalkTables_c w3.heap.size x3 c3 ls r0 _ HMX3.out (by have := HZ1.out; have := HZ2.out; have := HZ3.out; omega) HS.out).mono ?_
    rintro e w4 ⟨v4, rfl, ho4, hg4⟩
    have hh4 : ∀ g, v4.ownBlock = some g → g < w4.heap.size := fun g e => (OwnI.lt ho4 g e).2
    obtain ⟨x4, c4, rfl, _, _, hm4⟩ := ho4.intsB hh4
    have HHG := Lib.hid hh4
    have HB4 := Lib.hid (below_none HB3.out (Nat.le_refl _) hg4)
    have HZ4 := Lib.hid hg4.size
    have HOW4 := Lib.hid (HOW3.out.keptN hg4)
    have HMW4 := Lib.hid (HMW3.out.gnone hg4 (by have := HZ1.out; have := HZ2.out; have := HZ3.out; omega))
    have HOX4 := Lib.hid (HOX3.out.gnone hg4)
    have HMX4 := Lib.hid (HMX3.out.gnone hg4 (by have := HZ1.out; have := HZ2.out; have := HZ3.out; omega))
    have HOG4 := Lib.hid ho4
    have HMG4 := Lib.hid hm4
    clear ho4 hm4 hg4 hh4
    go_wp2_with fail
    refine (eqIntS_c x4 x2 c4 c2 (wtL ls r0) (wtL ls r0) _ HMG4.out.ints HMW4.out.ints HSL.out HSL.out).mono ?_
    rintro e w5 ⟨rfl, q5, hw5⟩
    rw [beq_self_eq_true]
    have hg5 : w4.grownBy w5 none := by rw [hw5]; exact drewN_none _ _
    clear hw5
    have HB5 := Lib.hid (below_none HB4.out (Nat.le_refl _) hg5)
    have HZ5 := Lib.hid hg5.size
    have HOW5 := Lib.hid (HOW4.out.keptN hg5)
    have HMW5 := Lib.hid (HMW4.out.gnone hg5 (by have := HZ1.out; have := HZ2.out; have := HZ3.out; have := HZ4.out; omega))
    have HOX5 := Lib.hid (HOX4.out.gnone hg5)
    have HMX5 := Lib.hid (HMX4.out.gnone hg5 (by have := HZ1.out; have := HZ2.out; have := HZ3.out; have := HZ4.out; omega))
    have HOG5 := Lib.hid (HOG4.out.keptN hg5)
    have HMG5 := Lib.hid (HMG4.out.gnone hg5 (by have := HZ1.out; have := HZ2.out; have := HZ3.out; have := HZ4.out; omega))
    clear hg5
    go_wp2_with fail
    refine (toIntSS_c w.heap.size a cap ls _ (HM.out.below HB5.out) HB5.out.size HS.out).mono ?_
    rintro e w6 ⟨v6, rfl, ho6, hg6⟩
    obtain ⟨x6, c6, rfl, _, _, hm6⟩ := ho6.mem
    have HB6 := Lib.hid (below_none HB5.out (Nat.le_refl _) hg6)
    have HZ6 := Lib.hid hg6.size
    have HOW6 := Lib.hid (HOW5.out.keptN hg6)
    have HMW6 := Lib.hid (HMW5.out.gnone hg6 (by have := HZ1.out; have := HZ2.out; have := HZ3.out; have := HZ4.out; have := HZ5.out; omega))
    have HOX6 := Lib.hid (HOX5.out.gnone hg6)
    have HMX6 := Lib.hid (HMX5.out.gnone hg6 (by have := HZ1.out; have := HZ2.out; have := HZ3.out; have := HZ4.out; have := HZ5.out; omega))
    have HOG6 := Lib.hid (HOG5.out.keptN hg6)
    have HMG6 := Lib.hid (HMG5.out.gnone hg6 (by have := HZ1.out; have := HZ2.out; have := HZ3.out; have := HZ4.out; have := HZ5.out; omega))
    have HOY6 := Lib.hid ho6
    have HMY6 := Lib.hid hm6
    clear ho6 hm6 hg6
    go_wp2_with fail
    refine (eqIntSS_c w3.heap.size w6.heap.size x3 x6 c3 c6 ls ls _ HMX6.out HMY6.out HS.out HS.out).mono ?_
    rintro e w7 ⟨rfl, q7, hw7⟩
    rw [beq_self_eq_true]
    have hg7 : w6.grownBy w7 none := by rw [hw7]; exact drewN_none _ _
    clear hw7
    have HB7 := Lib.hid (below_none HB6.out (Nat.le_refl _) hg7)
    have HZ7 := Lib.hid hg7.size
    have HOW7 := Lib.hid (HOW6.out.keptN hg7)
    have HMW7 := Lib.hid (HMW6.out.gnone hg7 (by have := HZ1.out; have := HZ2.out; have := HZ3.out; have := HZ4.out; have := HZ5.out; have := HZ6.out; omega))
    have HOX7 := Lib.hid (HOX6.out.gnone hg7)
    have HMX7 := Lib.hid (HMX6.out.gnone hg7 (by have := HZ1.out; have := HZ2.out; have := HZ3.out; have := HZ4.out; have := HZ5.out; have := HZ6.out; omega))
    have HOG7 := Lib.hid (HOG6.out.keptN hg7)
    have HMG7 := Lib.hid (HMG6.out.gnone hg7 (by have := HZ1.out; have := HZ2.out; have := HZ3.out; have := HZ4.out; have := HZ5.out; have := HZ6.out; omega))
    have HOY7 := Lib.hid (HOY6.out.gnone hg7)
    have HMY7 := Lib.hid (HMY6.out.gnone hg7 (by have := HZ1.out; have := HZ2.out; have := HZ3.out; have := HZ4.out; have := HZ5.out; have := HZ6.out; omega))
    clear hg7
    go_wp2_with fail
    refine (markIntSS_c w2.heap.size w3.heap.size _ ls 1 _ HOX7.out HS.out (by omega) (by omega)).mono ?_
    rintro e w8 ⟨rfl, ht8, xs8, sh8, mk8, ho8⟩
    have hk8 : decide (1 + (sums ls ls.length : Int) < 0) = false := by simp; omega
    clear sh8 mk8 ho8
    have HB8 := Lib.hid (HB7.out.trans (ht8.below (by have := HZ1.out; have := HZ2.out; have := HZ3.out; have := HZ4.out; have := HZ5.out; have := HZ6.out; have := HZ7.out; omega) HB7.out.size))
    have HZ8 := Lib.hid ht8.size
    have HOW8 := Lib.hid (HOW7.out.turned ht8 HHW.out (.inl (by have := HZ1.out; have := HZ2.out; have := HZ3.out; have := HZ4.out; have := HZ5.out; have := HZ6.out; have := HZ7.out; have := HZ8.out; omega)))
    obtain ⟨_, _, eW8, _, _, hmW8⟩ := HOW8.out.intsB HHW.out
    simp only [Value.slice.injEq, true_and] at eW8
    obtain ⟨rfl, rfl⟩ := eW8
    have HMW8 := Lib.hid hmW8
    clear hmW8
    have HOG8 := Lib.hid (HOG7.out.turned ht8 HHG.out (.inr (by have := HZ1.out; have := HZ2.out; have := HZ3.out; have := HZ4.out; have := HZ5.out; have := HZ6.out; have := HZ7.out; have := HZ8.out; omega)))
    obtain ⟨_, _, eG8, _, _, hmG8⟩ := HOG8.out.intsB HHG.out
    simp only [Value.slice.injEq, true_and] at eG8
    obtain ⟨rfl, rfl⟩ := eG8
    have HMG8 := Lib.hid hmG8
    clear hmG8
    clear ht8
    go_wp2_with fail
    refine (eqIntS_c x4 x2 c4 c2 (wtL ls r0) (wtL ls r0) _ HMG8.out.ints HMW8.out.ints HSL.out HSL.out).mono ?_
    rintro e w9 ⟨rfl, q9, hw9⟩
    rw [beq_self_eq_true]
    have hg9 : w8.grownBy w9 none := by rw [hw9]; exact drewN_none _ _
    clear hw9
    have HB9 := Lib.hid (below_none HB8.out (Nat.le_refl _) hg9)
    have HZ9 := Lib.hid hg9.size
    have HOW9 := Lib.hid (HOW8.out.keptN hg9)
    have HMW9 := Lib.hid (HMW8.out.gnone hg9 (by have := HZ1.out; have := HZ2.out; have := HZ3.out; have := HZ4.out; have := HZ5.out; have := HZ6.out; have := HZ7.out; have := HZ8.out; omega))
    have HOG9 := Lib.hid (HOG8.out.keptN hg9)
    have HMG9 := Lib.hid (HMG8.out.gnone hg9 (by have := HZ1.out; have := HZ2.out; have := HZ3.out; have := HZ4.out; have := HZ5.out; have := HZ6.out; have := HZ7.out; have := HZ8.out; omega))
    clear hg9
    go_wp2_with fail
    refine (markIntS_c w3.heap.size _ (wtL ls r0) 1 _ HOG9.out HSL.out (by omega) (by omega)).mono ?_
    rintro e w10 ⟨rfl, hg10, xsG, hlG, hxG, ho10⟩
    have ht10 := Turned.of_row (lo := w3.heap.size) (hi := w4.heap.size) hg10 (fun k e => ⟨(OwnI.lt HOG9.out k e).1, HHG.out k e⟩)
    have HB10 := Lib.hid (HB9.out.trans (ht10.below (by have := HZ1.out; have := HZ2.out; have := HZ3.out; have := HZ4.out; have := HZ5.out; have := HZ6.out; have := HZ7.out; have := HZ8.out; have := HZ9.out; omega) HB9.out.size))
    have HZ10 := Lib.hid ht10.size
    have HOW10 := Lib.hid (HOW9.out.turned ht10 HHW.out (.inl (by have := HZ1.out; have := HZ2.out; have := HZ3.out; have := HZ4.out; have := HZ5.out; have := HZ6.out; have := HZ7.out; have := HZ8.out; have := HZ9.out; have := HZ10.out; omega)))
    obtain ⟨_, _, eW10, _, _, hmW10⟩ := HOW10.out.intsB HHW.out
    simp only [Value.slice.injEq, true_and] at eW10
    obtain ⟨rfl, rfl⟩ := eW10
    have HMW10 := Lib.hid hmW10
    clear hmW10
    have HLG := Lib.hid hlG
    have HXG := Lib.hid hxG
    have HOG10 := Lib.hid ho10
    have hm10 := HOG10.out.intsB HHG.out
    rw [HLG.out] at hm10
    obtain ⟨_, _, em10, _, _, hm10⟩ := hm10
    simp only [Value.slice.injEq, true_and] at em10
    obtain ⟨rfl, rfl⟩ := em10
    have HMG10 := Lib.hid hm10
    clear hm10 ho10 hg10 ht10 hlG hxG
    go_wp2_with fail
    refine (heldIntS_k x4 c4 xsG (wtL ls r0).length 1 _ HMG10.out.ints HLG.out HSL.out (by omega) (by omega) HXG.out).mono ?_
    rintro e w' ⟨rfl, rfl⟩
    go_wp2_with fail
    refine (toIntSS_c w.heap.size a cap ls _ (HM.out.below HB10.out) HB10.out.size HS.out).mono ?_
    rintro e w11 ⟨v11, rfl, ho11, hg11⟩
    obtain ⟨x11, c11, rfl, _, _, hm11⟩ := ho11.mem
    have HB11 := Lib.hid (below_none HB10.out (Nat.le_refl _) hg11)
    have HZ11 := Lib.hid hg11.size
    have HOW11 := Lib.hid (HOW10.out.keptN hg11)
    have HMW11 := Lib.hid (HMW10.out.gnone hg11 (by have := HZ1.out; have := HZ2.out; have := HZ3.out; have := HZ4.out; have := HZ5.out; have := HZ6.out; have := HZ7.out; have := HZ8.out; have := HZ9.out; have := HZ10.out; omega))
    have HOG11 := Lib.hid (HOG10.out.keptN hg11)
    have HMG11 := Lib.hid (HMG10.out.gnone hg11 (by have := HZ1.out; have := HZ2.out; have := HZ3.out; have := HZ4.out; have := HZ5.out; have := HZ6.out; have := HZ7.out; have := HZ8.out; have := HZ9.out; have := HZ10.out; omega))
    have HOZ11 := Lib.hid ho11
    have HMZ11 := Lib.hid hm11
    clear ho11 hm11 hg11
    go_wp2_with fail
    refine (implWalkTables_c w11.heap.size x11 c11 ls r0 _ HMZ11.out (by have := HZ1.out; have := HZ2.out; have := HZ3.out; have := HZ4.out; have := HZ5.out; have := HZ6.out; have := HZ7.out; have := HZ8.out; have := HZ9.out; have := HZ10.out; have := HZ11.out; omega) HS.out).mono ?_
    rintro e w12 ⟨v12, rfl, ho12, hg12⟩
    have hh12 : ∀ g, v12.ownBlock = some g → g < w12.heap.size := fun g e => (OwnI.lt ho12 g e).2
    obtain ⟨x12, c12, rfl, _, _, hm12⟩ := ho12.intsB hh12
    have HHH := Lib.hid hh12
    have HB12 := Lib.hid (below_none HB11.out (Nat.le_refl _) hg12)
    have HZ12 := Lib.hid hg12.size
    have HOW12 := Lib.hid (HOW11.out.keptN hg12)
    have HMW12 := Lib.hid (HMW11.out.gnone hg12 (by have := HZ1.out; have := HZ2.out; have := HZ3.out; have := HZ4.out; have := HZ5.out; have := HZ6.out; have := HZ7.out; have := HZ8.out; have := HZ9.out; have := HZ10.out; have := HZ11.out; omega))
    have HOG12 := Lib.hid (HOG11.out.keptN hg12)
    have HMG12 := Lib.hid (HMG11.out.gnone hg12 (by have := HZ1.out; have := HZ2.out; have := HZ3.out; have := HZ4.out; have := HZ5.out; have := HZ6.out; have := HZ7.out; have := HZ8.out; have := HZ9.out; have := HZ10.out; have := HZ11.out; omega))
    have HOZ12 := Lib.hid (HOZ11.out.gnone hg12)
    have HMZ12 := Lib.hid (HMZ11.out.gnone hg12 (by have := HZ1.out; have := HZ2.out; have := HZ3.out; have := HZ4.out; have := HZ5.out; have := HZ6.out; have := HZ7.out; have := HZ8.out; have := HZ9.out; have := HZ10.out; have := HZ11.out; omega))
    have HOH12 := Lib.hid ho12
    have HMH12 := Lib.hid hm12
    clear ho12 hm12 hg12 hh12
    go_wp2_with fail
    refine (eqIntS_c x12 x2 c12 c2 (wtL ls r0) (wtL ls r0) _ HMH12.out.ints HMW12.out.ints HSL.out HSL.out).mono ?_
    rintro e w13 ⟨rfl, q13, hw13⟩
    rw [beq_self_eq_true]
    have hg13 : w12.grownBy w13 none := by rw [hw13]; exact drewN_none _ _
    clear hw13
    have HB13 := Lib.hid (below_none HB12.out (Nat.le_refl _) hg13)
    have HZ13 := Lib.hid hg13.size
    have HOW13 := Lib.hid (HOW12.out.keptN hg13)
    have HMW13 := Lib.hid (HMW12.out.gnone hg13 (by have := HZ1.out; have := HZ2.out; have := HZ3.out; have := HZ4.out; have := HZ5.out; have := HZ6.out; have := HZ7.out; have := HZ8.out; have := HZ9.out; have := HZ10.out; have := HZ11.out; have := HZ12.out; omega))
    have HOG13 := Lib.hid (HOG12.out.keptN hg13)
    have HMG13 := Lib.hid (HMG12.out.gnone hg13 (by have := HZ1.out; have := HZ2.out; have := HZ3.out; have := HZ4.out; have := HZ5.out; have := HZ6.out; have := HZ7.out; have := HZ8.out; have := HZ9.out; have := HZ10.out; have := HZ11.out; have := HZ12.out; omega))
    have HOH13 := Lib.hid (HOH12.out.keptN hg13)
    have HMH13 := Lib.hid (HMH12.out.gnone hg13 (by have := HZ1.out; have := HZ2.out; have := HZ3.out; have := HZ4.out; have := HZ5.out; have := HZ6.out; have := HZ7.out; have := HZ8.out; have := HZ9.out; have := HZ10.out; have := HZ11.out; have := HZ12.out; omega))
    clear hg13
    go_wp2_with fail
    refine (heldIntS_k x4 c4 xsG (wtL ls r0).length 1 _ HMG13.out.ints HLG.out HSL.out (by omega) (by omega) HXG.out).mono ?_
    rintro e w' ⟨rfl, rfl⟩
    go_wp2_with fail
    go_ret
    exact ⟨rfl, HB13.out⟩
set_option maxHeartbeats 2000000 in
theorem FnExactWalkFrames_w (a : Option Addr) (len cap : Nat) (ls : List (List Int)) (r0 : Int) (w : World) (h : Rows2 w a len cap ls) :
    Calls Try.prog 4 #[.slice a len cap, .int .i64 r0] w fun e w' => e = .returned (.bool true) ∧ Below w.heap.size w w' := by
  obtain ⟨rfl, hlc, hcm, hrows, hmem⟩ := h
  have HM := Lib.hid hmem
  have HR : Hid (∀ i, (ls.getD i []).length ≤ maxLen) := by
    intro i
    rcases Nat.lt_or_ge i ls.length with hi | hi
    · exact hrows _ (getD_memL hi)
    · rw [List.getD_eq_getElem?_getD, List.getElem?_eq_none hi]; simp
  clear hrows hmem
  go_enter Try.func4, Try.ntmps4
  go_wp2_with fail
  refine (szIntSS_c w.heap.size a cap ls _ HM.out (by omega) HR.out).mono ?_
  rintro e w0 ⟨r, rfl, hr, rfl⟩
  have HSm := Lib.hid hr
  clear hr
  by_cases hneg : r < 0
  · go_wp2_with fail
    go_ret
    exact ⟨rfl, Below.refl _ _⟩
  · have HS := Lib.hid (HSm.out (by omega))
    clear HSm
    have HB0 := Lib.hid (Below.refl w.heap.size w)
    have HSL : Hid ((wfL ls r0).length ≤ 1048576) := Nat.le_trans (wf_len ls r0) (by omega)
    go_wp2_with fail
    refine (toIntSS_c w.heap.size a cap ls _ (HM.out.below HB0.out) HB0.out.size HS.out).mono ?_
    rintro e w1 ⟨v1, rfl, ho1, hg1⟩
    obtain ⟨x1, c1, rfl, _, _, hm1⟩ := ho1.mem
    have HB1 := Lib.hid (below_none HB0.out (Nat.le_refl _) hg1)
    have HZ1 := Lib.hid hg1.size
    have HOT1 := Lib.hid ho1
    have HMT1 := Lib.hid hm1
    clear ho1 hm1 hg1
    go_wp2_with fail
    refine (specWalkFrames_c w1.heap.size x1 c1 ls r0 _ HMT1.out (by have := HZ1.out; omega) HS.out).mono ?_
    rintro e w2 ⟨v2, rfl, ho2, hg2⟩
    have hh2 : ∀ g, v2.ownBlock = some g → g < w2.heap.size := fun g e => (OwnI.lt ho2 g e).2
    obtain ⟨x2, c2, rfl, _, _, hm2⟩ := ho2.intsB hh2
    have HHW := Lib.hid hh2
    have HB2 := Lib.hid (below_none HB1.out (Nat.le_refl _) hg2)
    have HZ2 := Lib.hid hg2.size
    have HOT2 := Lib.hid (HOT1.out.gnone hg2)
    have HMT2 := Lib.hid (HMT1.out.gnone hg2 (by have := HZ1.out; omega))
    have HOW2 := Lib.hid ho2
    have HMW2 := Lib.hid hm2
    clear ho2 hm2 hg2 hh2
    go_wp2_with fail
    refine (toIntSS_c w.heap.size a cap ls _ (HM.out.below HB2.out) HB2.out.size HS.out).mono ?_
    rintro e w3 ⟨v3, rfl, ho3, hg3⟩
    obtain ⟨x3, c3, rfl, _, _, hm3⟩ := ho3.mem
    have HB3 := Lib.hid (below_none HB2.out (Nat.le_refl _) hg3)
    have HZ3 := Lib.hid hg3.size
    have HOW3 := Lib.hid (HOW2.out.keptN hg3)
    have HMW3 := Lib.hid (HMW2.out.gnone hg3 (by have := HZ1.out; have := HZ2.out; omega))
    have HOX3 := Lib.hid ho3
    have HMX3 := Lib.hid hm3
    clear ho3 hm3 hg3
    go_wp2_with fail
    refine (implWalkFrames_c w3.heap.size x3 c3 ls r0 _ HMX3.out (by have := HZ1.out; have := HZ2.out; have := HZ3.out; omega) HS.out).mono ?_
    rintro e w4 ⟨v4, rfl, ho4, hg4⟩
    have hh4 : ∀ g, v4.ownBlock = some g → g < w4.heap.size := fun g e => (OwnI.lt ho4 g e).2
    obtain ⟨x4, c4, rfl, _, _, hm4⟩ := ho4.intsB hh4
    have HHG := Lib.hid hh4
    have HB4 := Lib.hid (below_none HB3.out (Nat.le_refl _) hg4)
    have HZ4 := Lib.hid hg4.size
    have HOW4 := Lib.hid (HOW3.out.keptN hg4)
    have HMW4 := Lib.hid (HMW3.out.gnone hg4 (by have := HZ1.out; have := HZ2.out; have := HZ3.out; omega))
    have HOX4 := Lib.hid (HOX3.out.gnone hg4)
    have HMX4 := Lib.hid (HMX3.out.gnone hg4 (by have := HZ1.out; have := HZ2.out; have := HZ3.out; omega))
    have HOG4 := Lib.hid ho4
    have HMG4 := Lib.hid hm4
    clear ho4 hm4 hg4 hh4
    go_wp2_with fail
    refine (eqIntS_c x4 x2 c4 c2 (wfL ls r0) (wfL ls r0) _ HMG4.out.ints HMW4.out.ints HSL.out HSL.out).mono ?_
    rintro e w5 ⟨rfl, q5, hw5⟩
    rw [beq_self_eq_true]
    have hg5 : w4.grownBy w5 none := by rw [hw5]; exact drewN_none _ _
    clear hw5
    have HB5 := Lib.hid (below_none HB4.out (Nat.le_refl _) hg5)
    have HZ5 := Lib.hid hg5.size
    have HOW5 := Lib.hid (HOW4.out.keptN hg5)
    have HMW5 := Lib.hid (HMW4.out.gnone hg5 (by have := HZ1.out; have := HZ2.out; have := HZ3.out; have := HZ4.out; omega))
    have HOX5 := Lib.hid (HOX4.out.gnone hg5)
    have HMX5 := Lib.hid (HMX4.out.gnone hg5 (by have := HZ1.out; have := HZ2.out; have := HZ3.out; have := HZ4.out; omega))
    have HOG5 := Lib.hid (HOG4.out.keptN hg5)
    have HMG5 := Lib.hid (HMG4.out.gnone hg5 (by have := HZ1.out; have := HZ2.out; have := HZ3.out; have := HZ4.out; omega))
    clear hg5
    go_wp2_with fail
    refine (toIntSS_c w.heap.size a cap ls _ (HM.out.below HB5.out) HB5.out.size HS.out).mono ?_
    rintro e w6 ⟨v6, rfl, ho6, hg6⟩
    obtain ⟨x6, c6, rfl, _, _, hm6⟩ := ho6.mem
    have HB6 := Lib.hid (below_none HB5.out (Nat.le_refl _) hg6)
    have HZ6 := Lib.hid hg6.size
    have HOW6 := Lib.hid (HOW5.out.keptN hg6)
    have HMW6 := Lib.hid (HMW5.out.gnone hg6 (by have := HZ1.out; have := HZ2.out; have := HZ3.out; have := HZ4.out; have := HZ5.out; omega))
    have HOX6 := Lib.hid (HOX5.out.gnone hg6)
    have HMX6 := Lib.hid (HMX5.out.gnone hg6 (by have := HZ1.out; have := HZ2.out; have := HZ3.out; have := HZ4.out; have := HZ5.out; omega))
    have HOG6 := Lib.hid (HOG5.out.keptN hg6)
    have HMG6 := Lib.hid (HMG5.out.gnone hg6 (by have := HZ1.out; have := HZ2.out; have := HZ3.out; have := HZ4.out; have := HZ5.out; omega))
    have HOY6 := Lib.hid ho6
    have HMY6 := Lib.hid hm6
    clear ho6 hm6 hg6
    go_wp2_with fail
    refine (eqIntSS_c w3.heap.size w6.heap.size x3 x6 c3 c6 ls ls _ HMX6.out HMY6.out HS.out HS.out).mono ?_
    rintro e w7 ⟨rfl, q7, hw7⟩
    rw [beq_self_eq_true]
    have hg7 : w6.grownBy w7 none := by rw [hw7]; exact drewN_none _ _
    clear hw7
    have HB7 := Lib.hid (below_none HB6.out (Nat.le_refl _) hg7)
    have HZ7 := Lib.hid hg7.size
    have HOW7 := Lib.hid (HOW6.out.keptN hg7)
    have HMW7 := Lib.hid (HMW6.out.gnone hg7 (by have := HZ1.out; have := HZ2.out; have := HZ3.out; have := HZ4.out; have := HZ5.out; have := HZ6.out; omega))
    have HOX7 := Lib.hid (HOX6.out.gnone hg7)
    have HMX7 := Lib.hid (HMX6.out.gnone hg7 (by have := HZ1.out; have := HZ2.out; have := HZ3.out; have := HZ4.out; have := HZ5.out; have := HZ6.out; omega))
    have HOG7 := Lib.hid (HOG6.out.keptN hg7)
    have HMG7 := Lib.hid (HMG6.out.gnone hg7 (by have := HZ1.out; have := HZ2.out; have := HZ3.out; have := HZ4.out; have := HZ5.out; have := HZ6.out; omega))
    have HOY7 := Lib.hid (HOY6.out.gnone hg7)
    have HMY7 := Lib.hid (HMY6.out.gnone hg7 (by have := HZ1.out; have := HZ2.out; have := HZ3.out; have := HZ4.out; have := HZ5.out; have := HZ6.out; omega))
    clear hg7
    go_wp2_with fail
    refine (markIntSS_c w2.heap.size w3.heap.size _ ls 1 _ HOX7.out HS.out (by omega) (by omega)).mono ?_
    rintro e w8 ⟨rfl, ht8, xs8, sh8, mk8, ho8⟩
    have hk8 : decide (1 + (sums ls ls.length : Int) < 0) = false := by simp; omega
    clear sh8 mk8 ho8
    have HB8 := Lib.hid (HB7.out.trans (ht8.below (by have := HZ1.out; have := HZ2.out; have := HZ3.out; have := HZ4.out; have := HZ5.out; have := HZ6.out; have := HZ7.out; omega) HB7.out.size))
    have HZ8 := Lib.hid ht8.size
    have HOW8 := Lib.hid (HOW7.out.turned ht8 HHW.out (.inl (by have := HZ1.out; have := HZ2.out; have := HZ3.out; have := HZ4.out; have := HZ5.out; have := HZ6.out; have := HZ7.out; have := HZ8.out; omega)))
    obtain ⟨_, _, eW8, _, _, hmW8⟩ := HOW8.out.intsB HHW.out
    simp only [Value.slice.injEq, true_and] at eW8
    obtain ⟨rfl, rfl⟩ := eW8
    have HMW8 := Lib.hid hmW8
    clear hmW8
    have HOG8 := Lib.hid (HOG7.out.turned ht8 HHG.out (.inr (by have := HZ1.out; have := HZ2.out; have := HZ3.out; have := HZ4.out; have := HZ5.out; have := HZ6.out; have := HZ7.out; have := HZ8.out; omega)))
    obtain ⟨_, _, eG8, _, _, hmG8⟩ := HOG8.out.intsB HHG.out
    simp only [Value.slice.injEq, true_and] at eG8
    obtain ⟨rfl, rfl⟩ := eG8
    have HMG8 := Lib.hid hmG8
    clear hmG8
    clear ht8
    go_wp2_with fail
    refine (eqIntS_c x4 x2 c4 c2 (wfL ls r0) (wfL ls r0) _ HMG8.out.ints HMW8.out.ints HSL.out HSL.out).mono ?_
    rintro e w9 ⟨rfl, q9, hw9⟩
    rw [beq_self_eq_true]
    have hg9 : w8.grownBy w9 none := by rw [hw9]; exact drewN_none _ _
    clear hw9
    have HB9 := Lib.hid (below_none HB8.out (Nat.le_refl _) hg9)
    have HZ9 := Lib.hid hg9.size
    have HOW9 := Lib.hid (HOW8.out.keptN hg9)
    have HMW9 := Lib.hid (HMW8.out.gnone hg9 (by have := HZ1.out; have := HZ2.out; have := HZ3.out; have := HZ4.out; have := HZ5.out; have := HZ6.out; have := HZ7.out; have := HZ8.out; omega))
    have HOG9 := Lib.hid (HOG8.out.keptN hg9)
    have HMG9 := Lib.hid (HMG8.out.gnone hg9 (by have := HZ1.out; have := HZ2.out; have := HZ3.out; have := HZ4.out; have := HZ5.out; have := HZ6.out; have := HZ7.out; have := HZ8.out; omega))
    clear hg9
    go_wp2_with fail
    refine (markIntS_c w3.heap.size _ (wfL ls r0) 1 _ HOG9.out HSL.out (by omega) (by omega)).mono ?_
    rintro e w10 ⟨rfl, hg10, xsG, hlG, hxG, ho10⟩
    have ht10 := Turned.of_row (lo := w3.heap.size) (hi := w4.heap.size) hg10 (fun k e => ⟨(OwnI.lt HOG9.out k e).1, HHG.out k e⟩)
    have HB10 := Lib.hid (HB9.out.trans (ht10.below (by have := HZ1.out; have := HZ2.out; have := HZ3.out; have := HZ4.out; have := HZ5.out; have := HZ6.out; have := HZ7.out; have := HZ8.out; have := HZ9.out; omega) HB9.out.size))
    have HZ10 := Lib.hid ht10.size
    have HOW10 := Lib.hid (HOW9.out.turned ht10 HHW.out (.inl (by have := HZ1.out; have := HZ2.out; have := HZ3.out; have := HZ4.out; have := HZ5.out; have := HZ6.out; have := HZ7.out; have := HZ8.out; have := HZ9.out; have := HZ10.out; omega)))
    obtain ⟨_, _, eW10, _, _, hmW10⟩ := HOW10.out.intsB HHW.out
    simp only [Value.slice.injEq, true_and] at eW10
    obtain ⟨rfl, rfl⟩ := eW10
    have HMW10 := Lib.hid hmW10
    clear hmW10
    have HLG := Lib.hid hlG
    have HXG := Lib.hid hxG
    have HOG10 := Lib.hid ho10
    have hm10 := HOG10.out.intsB HHG.out
    rw [HLG.out] at hm10
    obtain ⟨_, _, em10, _, _, hm10⟩ := hm10
    simp only [Value.slice.injEq, true_and] at em10
    obtain ⟨rfl, rfl⟩ := em10
    have HMG10 := Lib.hid hm10
    clear hm10 ho10 hg10 ht10 hlG hxG
    go_wp2_with fail
    refine (heldIntS_k x4 c4 xsG (wfL ls r0).length 1 _ HMG10.out.ints HLG.out HSL.out (by omega) (by omega) HXG.out).mono ?_
    rintro e w' ⟨rfl, rfl⟩
    go_wp2_with fail
    refine (toIntSS_c w.heap.size a cap ls _ (HM.out.below HB10.out) HB10.out.size HS.out).mono ?_
    rintro e w11 ⟨v11, rfl, ho11, hg11⟩
    obtain ⟨x11, c11, rfl, _, _, hm11⟩ := ho11.mem
    have HB11 := Lib.hid (below_none HB10.out (Nat.le_refl _) hg11)
    have HZ11 := Lib.hid hg11.size
    have HOW11 := Lib.hid (HOW10.out.keptN hg11)
    have HMW11 := Lib.hid (HMW10.out.gnone hg11 (by have := HZ1.out; have := HZ2.out; have := HZ3.out; have := HZ4.out; have := HZ5.out; have := HZ6.out; have := HZ7.out; have := HZ8.out; have := HZ9.out; have := HZ10.out; omega))
    have HOG11 := Lib.hid (HOG10.out.keptN hg11)
    have HMG11 := Lib.hid (HMG10.out.gnone hg11 (by have := HZ1.out; have := HZ2.out; have := HZ3.out; have := HZ4.out; have := HZ5.out; have := HZ6.out; have := HZ7.out; have := HZ8.out; have := HZ9.out; have := HZ10.out; omega))
    have HOZ11 := Lib.hid ho11
    have HMZ11 := Lib.hid hm11
    clear ho11 hm11 hg11
    go_wp2_with fail
    refine (implWalkFrames_c w11.heap.size x11 c11 ls r0 _ HMZ11.out (by have := HZ1.out; have := HZ2.out; have := HZ3.out; have := HZ4.out; have := HZ5.out; have := HZ6.out; have := HZ7.out; have := HZ8.out; have := HZ9.out; have := HZ10.out; have := HZ11.out; omega) HS.out).mono ?_
    rintro e w12 ⟨v12, rfl, ho12, hg12⟩
    have hh12 : ∀ g, v12.ownBlock = some g → g < w12.heap.size := fun g e => (OwnI.lt ho12 g e).2
    obtain ⟨x12, c12, rfl, _, _, hm12⟩ := ho12.intsB hh12
    have HHH := Lib.hid hh12
    have HB12 := Lib.hid (below_none HB11.out (Nat.le_refl _) hg12)
    have HZ12 := Lib.hid hg12.size
    have HOW12 := Lib.hid (HOW11.out.keptN hg12)
    have HMW12 := Lib.hid (HMW11.out.gnone hg12 (by have := HZ1.out; have := HZ2.out; have := HZ3.out; have := HZ4.out; have := HZ5.out; have := HZ6.out; have := HZ7.out; have := HZ8.out; have := HZ9.out; have := HZ10.out; have := HZ11.out; omega))
    have HOG12 := Lib.hid (HOG11.out.keptN hg12)
    have HMG12 := Lib.hid (HMG11.out.gnone hg12 (by have := HZ1.out; have := HZ2.out; have := HZ3.out; have := HZ4.out; have := HZ5.out; have := HZ6.out; have := HZ7.out; have := HZ8.out; have := HZ9.out; have := HZ10.out; have := HZ11.out; omega))
    have HOZ12 := Lib.hid (HOZ11.out.gnone hg12)
    have HMZ12 := Lib.hid (HMZ11.out.gnone hg12 (by have := HZ1.out; have := HZ2.out; have := HZ3.out; have := HZ4.out; have := HZ5.out; have := HZ6.out; have := HZ7.out; have := HZ8.out; have := HZ9.out; have := HZ10.out; have := HZ11.out; omega))
    have HOH12 := Lib.hid ho12
    have HMH12 := Lib.hid hm12
    clear ho12 hm12 hg12 hh12
    go_wp2_with fail
    refine (eqIntS_c x12 x2 c12 c2 (wfL ls r0) (wfL ls r0) _ HMH12.out.ints HMW12.out.ints HSL.out HSL.out).mono ?_
    rintro e w13 ⟨rfl, q13, hw13⟩
    rw [beq_self_eq_true]
    have hg13 : w12.grownBy w13 none := by rw [hw13]; exact drewN_none _ _
    clear hw13
    have HB13 := Lib.hid (below_none HB12.out (Nat.le_refl _) hg13)
    have HZ13 := Lib.hid hg13.size
    have HOW13 := Lib.hid (HOW12.out.keptN hg13)
    have HMW13 := Lib.hid (HMW12.out.gnone hg13 (by have := HZ1.out; have := HZ2.out; have := HZ3.out; have := HZ4.out; have := HZ5.out; have := HZ6.out; have := HZ7.out; have := HZ8.out; have := HZ9.out; have := HZ10.out; have := HZ11.out; have := HZ12.out; omega))
    have HOG13 := Lib.hid (HOG12.out.keptN hg13)
    have HMG13 := Lib.hid (HMG12.out.gnone hg13 (by have := HZ1.out; have := HZ2.out; have := HZ3.out; have := HZ4.out; have := HZ5.out; have := HZ6.out; have := HZ7.out; have := HZ8.out; have := HZ9.out; have := HZ10.out; have := HZ11.out; have := HZ12.out; omega))
    have HOH13 := Lib.hid (HOH12.out.keptN hg13)
    have HMH13 := Lib.hid (HMH12.out.gnone hg13 (by have := HZ1.out; have := HZ2.out; have := HZ3.out; have := HZ4.out; have := HZ5.out; have := HZ6.out; have := HZ7.out; have := HZ8.out; have := HZ9.out; have := HZ10.out; have := HZ11.out; have := HZ12.out; omega))
    clear hg13
    go_wp2_with fail
    refine (heldIntS_k x4 c4 xsG (wfL ls r0).length 1 _ HMG13.out.ints HLG.out HSL.out (by omega) (by omega) HXG.out).mono ?_
    rintro e w' ⟨rfl, rfl⟩
    go_wp2_with fail
    go_ret
    exact ⟨rfl, HB13.out⟩
end Go.Proofs.Ytejibbgoniecaaa
