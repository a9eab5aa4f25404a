/-
  The walks of the laws on walks through drawn memories: each returns true and writes nothing that was there. No conditions.
-/
import Derived.Test.YtbgiabhfgjnggaaDrawWalk
import Derived.Test.YtbgiabhfgjnggaaWalk
namespace Go.Proofs.Ytbgiabhfgjnggaa
open Go.RowKit

theorem wk_page {ls : List (List Int)} {f t : Int} (h : wkD ls f t = true) {i : Int} (i0 : 0 ≤ i) (i1 : i ≤ 3) :
    wkF ls f (t - t % 4 + i) = wkF ls f t ∧ wkA ls f (t - t % 4 + i) = i ∧ wkW ls f (t - t % 4 + i) = wkW ls f t ∧ wkN ls f (t - t % 4 + i) = 0 := by
  have hB : wkB ls f t = true := by unfold wkD at h; rw [Bool.and_eq_true] at h; exact h.1
  have h3 : inR t 0 63 = true := by unfold wkB at hB; rw [Bool.and_eq_true, Bool.and_eq_true] at hB; exact hB.2.2
  have b := inR_iff.1 h3
  have h4 : inR (t - t % 4 + i) 0 63 = true := inR_iff.2 (by omega)
  obtain ⟨e1, e2, e3, _⟩ := ac_bd h3
  obtain ⟨k1, k2, k3, _⟩ := ac_bd h4
  have eX : wkX ls f (t - t % 4 + i) = wkX ls f t := by unfold wkX; rw [k1, e1]; congr 1; omega
  have eY : wkY ls f (t - t % 4 + i) = wkY ls f t := by unfold wkY; rw [eX, k2, e2]; congr 1; omega
  have eB : wkB ls f (t - t % 4 + i) = wkB ls f t := by unfold wkB; rw [h4, h3]
  have eD : wkD ls f (t - t % 4 + i) = wkD ls f t := by unfold wkD; rw [eB, eX, eY]
  have hXY : egO (wkX ls f t) = true ∧ egO (wkY ls f t) = true := by unfold wkD at h; rw [Bool.and_eq_true, Bool.and_eq_true] at h; exact h.2
  refine ⟨by unfold wkF; rw [eD, eY], ?_, by unfold wkW; rw [eD, eX, eY], by unfold wkN; rw [eB, eX, eY, hB, hXY.1, hXY.2]; rfl⟩
  unfold wkA
  rw [eD, h, if_pos rfl, k3]
  omega
set_option maxHeartbeats 4000000 in
theorem FnWalkInvalid_w (a : Option Addr) (len cap : Nat) (w : World) (hB : Bytes w w.heap.size a len) (hc : len ≤ cap) (hm : len ≤ maxLen) :
    Calls Try.prog 4 #[.slice a len cap] w fun e w' => e = .returned (.bool true) ∧ Below w.heap.size w w' := by
  have HB := Lib.hid hB
  clear hB
  by_cases hl : (1048576 : Int) < (len : Int)
  · go_enter Try.func4, Try.ntmps4
    go_wp2_with fail
    go_ret
    exact ⟨rfl, Below.refl _ _⟩
  · go_enter Try.func4, Try.ntmps4
    go_wp2_with fail
    refine (DrawWalk_c a len cap w HB.out hc hm).mono ?_
    rintro e w1 ⟨v, ls, f, t, rfl, hd⟩
    have HS := Lib.hid hd.small
    obtain ⟨x1, c1, rfl, hlc, _, hm1⟩ := hd.1.mem
    have HOM1 := Lib.hid hd.1
    have HMM1 := Lib.hid hm1
    have HB1 := Lib.hid hd.2.2.2
    have HZ1 := Lib.hid hd.2.2.2.size
    have HC1 := Lib.hid hlc
    clear hd hm1 hlc
    go_wp2_with fail
    rcases wk_cases ls f t with ⟨hB0, hF, hA, hW, hN, hbad⟩ | ⟨h1, h2, h3, ⟨ho, hF, hA, hW, hN⟩ | ⟨ho, ho2, hF, hA, hW, hN⟩ | ⟨ho, ho2, hF, hA, hW, hN⟩⟩
    · obtain ⟨vF, hvF⟩ : ∃ vF : Int, vF = 0 := ⟨_, rfl⟩
      obtain ⟨vA, hvA⟩ : ∃ vA : Int, vA = 0 := ⟨_, rfl⟩
      obtain ⟨vW, hvW⟩ : ∃ vW : Bool, vW = false := ⟨_, rfl⟩
      have HV : Hid (WalkV (wkF ls f t) (wkA ls f t) (wkW ls f t) (wkN ls f t) = WalkV vF vA vW 3) := by show _ = _; rw [hF, hA, hW, hN, hvF, hvA, hvW]
      have HvF := Lib.hid hvF
      have HvA := Lib.hid hvA
      have HvW := Lib.hid hvW
      clear hF hA hW hN hvF hvA hvW
      have HBad := Lib.hid hbad
      clear hB0 hbad
      refine (implWalk_c w1.heap.size x1 c1 ls f t _ HMM1.out (by have := HZ1.out; omega) HS.out).mono ?_
      rintro e w2 ⟨rfl, hg2⟩
      rw [HV.out]
      unfold WalkV
      have HB2 := Lib.hid (below_none HB1.out (Nat.le_refl _) hg2)
      have HZ2 := Lib.hid hg2.size
      have HOM2 := Lib.hid (HOM1.out.gnone hg2)
      have HMM2 := Lib.hid (HMM1.out.gnone hg2 (by have := HZ1.out; omega))
      clear hg2
      have hal := World.grownBy_alloc w2 (.cells #[.int .i64 vF, .int .i64 vA, .bool vW] 27) none
      have HCA3 : Hid ((w2.alloc (.cells #[.int .i64 vF, .int .i64 vA, .bool vW] 27)).cell? ⟨w2.heap.size, 0, none⟩ = some (.int .i64 vF) ∧ (w2.alloc (.cells #[.int .i64 vF, .int .i64 vA, .bool vW] 27)).cell? ⟨w2.heap.size, 1, none⟩ = some (.int .i64 vA) ∧ (w2.alloc (.cells #[.int .i64 vF, .int .i64 vA, .bool vW] 27)).cell? ⟨w2.heap.size, 2, none⟩ = some (.bool vW)) := ⟨cell_new _ _ _ 0 _ rfl, cell_new _ _ _ 1 _ rfl, cell_new _ _ _ 2 _ rfl⟩
      clear hal
      go_wp2_with fail
      have hg3 := World.grownBy_alloc w2 (.cells #[.int .i64 vF, .int .i64 vA, .bool vW] 27) none
      generalize w2.alloc (.cells #[.int .i64 vF, .int .i64 vA, .bool vW] 27) = w3 at *
      have HB3 := Lib.hid (below_none HB2.out (Nat.le_refl _) hg3)
      have HZ3 := Lib.hid hg3.size
      have HOM3 := Lib.hid (HOM2.out.gnone hg3)
      have HMM3 := Lib.hid (HMM2.out.gnone hg3 (by have := HZ1.out; have := HZ2.out; omega))
      clear hg3
      refine (specWalk_c w1.heap.size x1 c1 ls f t _ HMM3.out (by have := HZ1.out; have := HZ2.out; have := HZ3.out; omega) HS.out).mono ?_
      rintro e w4 ⟨rfl, hg4⟩
      rw [HV.out]
      unfold WalkV
      have HB4 := Lib.hid (below_none HB3.out (Nat.le_refl _) hg4)
      have HZ4 := Lib.hid hg4.size
      have HOM4 := Lib.hid (HOM3.out.gnone hg4)
      have HMM4 := Lib.hid (HMM3.out.gnone hg4 (by have := HZ1.out; have := HZ2.out; have := HZ3.out; omega))
      have HCA4 : Hid (w4.cell? ⟨w2.heap.size, 0, none⟩ = some (.int .i64 vF) ∧ w4.cell? ⟨w2.heap.size, 1, none⟩ = some (.int .i64 vA) ∧ w4.cell? ⟨w2.heap.size, 2, none⟩ = some (.bool vW)) := ⟨hg4.cell HCA3.out.1 (by simp), hg4.cell HCA3.out.2.1 (by simp), hg4.cell HCA3.out.2.2 (by simp)⟩
      clear hg4
      have hal := World.grownBy_alloc w4 (.cells #[.int .i64 vF, .int .i64 vA, .bool vW] 27) none
      have HCA5 : Hid ((w4.alloc (.cells #[.int .i64 vF, .int .i64 vA, .bool vW] 27)).cell? ⟨w2.heap.size, 0, none⟩ = some (.int .i64 vF) ∧ (w4.alloc (.cells #[.int .i64 vF, .int .i64 vA, .bool vW] 27)).cell? ⟨w2.heap.size, 1, none⟩ = some (.int .i64 vA) ∧ (w4.alloc (.cells #[.int .i64 vF, .int .i64 vA, .bool vW] 27)).cell? ⟨w2.heap.size, 2, none⟩ = some (.bool vW)) := ⟨hal.cell HCA4.out.1 (by simp), hal.cell HCA4.out.2.1 (by simp), hal.cell HCA4.out.2.2 (by simp)⟩
      have HCB5 : Hid ((w4.alloc (.cells #[.int .i64 vF, .int .i64 vA, .bool vW] 27)).cell? ⟨w4.heap.size, 0, none⟩ = some (.int .i64 vF) ∧ (w4.alloc (.cells #[.int .i64 vF, .int .i64 vA, .bool vW] 27)).cell? ⟨w4.heap.size, 1, none⟩ = some (.int .i64 vA) ∧ (w4.alloc (.cells #[.int .i64 vF, .int .i64 vA, .bool vW] 27)).cell? ⟨w4.heap.size, 2, none⟩ = some (.bool vW)) := ⟨cell_new _ _ _ 0 _ rfl, cell_new _ _ _ 1 _ rfl, cell_new _ _ _ 2 _ rfl⟩
      clear hal
      have a0 := HCA5.out.1
      have a1 := HCA5.out.2.1
      have a2 := HCA5.out.2.2
      have HMw := Lib.hid (HMM4.out.gnone (World.grownBy_alloc w4 (.cells #[.int .i64 vF, .int .i64 vA, .bool vW] 27) none) (by have := HZ1.out; have := HZ2.out; have := HZ3.out; have := HZ4.out; omega))
      have HBw := Lib.hid (below_none HB4.out (Nat.le_refl _) (World.grownBy_alloc w4 (.cells #[.int .i64 vF, .int .i64 vA, .bool vW] 27) none))
      rcases HBad.out with h1 | ⟨h1, h2⟩ | ⟨h1, h2, h3⟩
      · go_wp2_with (go_at_call 12; refine (implMemoryValid_c _ _ _ ls _ HMw.out HS.out).mono ?_; rintro e w' ⟨rfl, rfl⟩)
        go_ret
        exact ⟨rfl, HBw.out⟩
      · have hr : f < 0 ∨ 0 ≤ f ∧ 12 ≤ f := by rw [inR_no] at h2; omega
        rcases hr with hr | ⟨hr, hr2⟩
        all_goals
          go_wp2_with (go_at_call 12; refine (implMemoryValid_c _ _ _ ls _ HMw.out HS.out).mono ?_; rintro e w' ⟨rfl, rfl⟩)
          go_ret
          exact ⟨rfl, HBw.out⟩
      · have hr := inR_iff.1 h2
        have f0 := hr.1
        have f1 := hr.2
        have hd : t < 0 ∨ 0 ≤ t ∧ 64 ≤ t := by rw [inR_no] at h3; omega
        rcases hd with hd | ⟨hd, hd2⟩
        all_goals
          go_wp2_with (go_at_call 12; refine (implMemoryValid_c _ _ _ ls _ HMw.out HS.out).mono ?_; rintro e w' ⟨rfl, rfl⟩)
          go_ret
          exact ⟨rfl, HBw.out⟩
    · obtain ⟨vF, hvF⟩ : ∃ vF : Int, vF = 0 := ⟨_, rfl⟩
      obtain ⟨vA, hvA⟩ : ∃ vA : Int, vA = 0 := ⟨_, rfl⟩
      obtain ⟨vW, hvW⟩ : ∃ vW : Bool, vW = false := ⟨_, rfl⟩
      have HV : Hid (WalkV (wkF ls f t) (wkA ls f t) (wkW ls f t) (wkN ls f t) = WalkV vF vA vW 1) := by show _ = _; rw [hF, hA, hW, hN, hvF, hvA, hvW]
      have HvF := Lib.hid hvF
      have HvA := Lib.hid hvA
      have HvW := Lib.hid hvW
      clear hF hA hW hN hvF hvA hvW
      have H1 := Lib.hid h1
      have H2 := Lib.hid h2
      have H3 := Lib.hid h3
      have HO := Lib.hid ho
      clear h1 h2 h3 ho
      refine (implWalk_c w1.heap.size x1 c1 ls f t _ HMM1.out (by have := HZ1.out; omega) HS.out).mono ?_
      rintro e w2 ⟨rfl, hg2⟩
      rw [HV.out]
      unfold WalkV
      have HB2 := Lib.hid (below_none HB1.out (Nat.le_refl _) hg2)
      have HZ2 := Lib.hid hg2.size
      have HOM2 := Lib.hid (HOM1.out.gnone hg2)
      have HMM2 := Lib.hid (HMM1.out.gnone hg2 (by have := HZ1.out; omega))
      clear hg2
      have hal := World.grownBy_alloc w2 (.cells #[.int .i64 vF, .int .i64 vA, .bool vW] 27) none
      have HCA3 : Hid ((w2.alloc (.cells #[.int .i64 vF, .int .i64 vA, .bool vW] 27)).cell? ⟨w2.heap.size, 0, none⟩ = some (.int .i64 vF) ∧ (w2.alloc (.cells #[.int .i64 vF, .int .i64 vA, .bool vW] 27)).cell? ⟨w2.heap.size, 1, none⟩ = some (.int .i64 vA) ∧ (w2.alloc (.cells #[.int .i64 vF, .int .i64 vA, .bool vW] 27)).cell? ⟨w2.heap.size, 2, none⟩ = some (.bool vW)) := ⟨cell_new _ _ _ 0 _ rfl, cell_new _ _ _ 1 _ rfl, cell_new _ _ _ 2 _ rfl⟩
      clear hal
      go_wp2_with fail
      have hg3 := World.grownBy_alloc w2 (.cells #[.int .i64 vF, .int .i64 vA, .bool vW] 27) none
      generalize w2.alloc (.cells #[.int .i64 vF, .int .i64 vA, .bool vW] 27) = w3 at *
      have HB3 := Lib.hid (below_none HB2.out (Nat.le_refl _) hg3)
      have HZ3 := Lib.hid hg3.size
      have HOM3 := Lib.hid (HOM2.out.gnone hg3)
      have HMM3 := Lib.hid (HMM2.out.gnone hg3 (by have := HZ1.out; have := HZ2.out; omega))
      clear hg3
      refine (specWalk_c w1.heap.size x1 c1 ls f t _ HMM3.out (by have := HZ1.out; have := HZ2.out; have := HZ3.out; omega) HS.out).mono ?_
      rintro e w4 ⟨rfl, hg4⟩
      rw [HV.out]
      unfold WalkV
      have HB4 := Lib.hid (below_none HB3.out (Nat.le_refl _) hg4)
      have HZ4 := Lib.hid hg4.size
      have HOM4 := Lib.hid (HOM3.out.gnone hg4)
      have HMM4 := Lib.hid (HMM3.out.gnone hg4 (by have := HZ1.out; have := HZ2.out; have := HZ3.out; omega))
      have HCA4 : Hid (w4.cell? ⟨w2.heap.size, 0, none⟩ = some (.int .i64 vF) ∧ w4.cell? ⟨w2.heap.size, 1, none⟩ = some (.int .i64 vA) ∧ w4.cell? ⟨w2.heap.size, 2, none⟩ = some (.bool vW)) := ⟨hg4.cell HCA3.out.1 (by simp), hg4.cell HCA3.out.2.1 (by simp), hg4.cell HCA3.out.2.2 (by simp)⟩
      clear hg4
      have hal := World.grownBy_alloc w4 (.cells #[.int .i64 vF, .int .i64 vA, .bool vW] 27) none
      have HCA5 : Hid ((w4.alloc (.cells #[.int .i64 vF, .int .i64 vA, .bool vW] 27)).cell? ⟨w2.heap.size, 0, none⟩ = some (.int .i64 vF) ∧ (w4.alloc (.cells #[.int .i64 vF, .int .i64 vA, .bool vW] 27)).cell? ⟨w2.heap.size, 1, none⟩ = some (.int .i64 vA) ∧ (w4.alloc (.cells #[.int .i64 vF, .int .i64 vA, .bool vW] 27)).cell? ⟨w2.heap.size, 2, none⟩ = some (.bool vW)) := ⟨hal.cell HCA4.out.1 (by simp), hal.cell HCA4.out.2.1 (by simp), hal.cell HCA4.out.2.2 (by simp)⟩
      have HCB5 : Hid ((w4.alloc (.cells #[.int .i64 vF, .int .i64 vA, .bool vW] 27)).cell? ⟨w4.heap.size, 0, none⟩ = some (.int .i64 vF) ∧ (w4.alloc (.cells #[.int .i64 vF, .int .i64 vA, .bool vW] 27)).cell? ⟨w4.heap.size, 1, none⟩ = some (.int .i64 vA) ∧ (w4.alloc (.cells #[.int .i64 vF, .int .i64 vA, .bool vW] 27)).cell? ⟨w4.heap.size, 2, none⟩ = some (.bool vW)) := ⟨cell_new _ _ _ 0 _ rfl, cell_new _ _ _ 1 _ rfl, cell_new _ _ _ 2 _ rfl⟩
      clear hal
      have a0 := HCA5.out.1
      have a1 := HCA5.out.2.1
      have a2 := HCA5.out.2.2
      have HMw := Lib.hid (HMM4.out.gnone (World.grownBy_alloc w4 (.cells #[.int .i64 vF, .int .i64 vA, .bool vW] 27) none) (by have := HZ1.out; have := HZ2.out; have := HZ3.out; have := HZ4.out; omega))
      have HBw := Lib.hid (below_none HB4.out (Nat.le_refl _) (World.grownBy_alloc w4 (.cells #[.int .i64 vF, .int .i64 vA, .bool vW] 27) none))
      have h1 := H1.out
      have f0 := (inR_iff.1 H2.out).1
      have f1 := (inR_iff.1 H2.out).2
      have t0 := (inR_iff.1 H3.out).1
      have t1 := (inR_iff.1 H3.out).2
      have q1 : decide (f < 0) = false := by simp; omega
      have q2 : decide (12 ≤ f) = false := by simp; omega
      have q3 : decide (t < 0) = false := by simp; omega
      have q4 : decide (64 ≤ t) = false := by simp; omega
      go_wp2_with (go_at_call 12; refine (implMemoryValid_c _ _ _ ls _ HMw.out HS.out).mono ?_; rintro e w' ⟨rfl, rfl⟩)
      go_ret
      exact ⟨rfl, HBw.out⟩
    · obtain ⟨vF, hvF⟩ : ∃ vF : Int, vF = 0 := ⟨_, rfl⟩
      obtain ⟨vA, hvA⟩ : ∃ vA : Int, vA = 0 := ⟨_, rfl⟩
      obtain ⟨vW, hvW⟩ : ∃ vW : Bool, vW = false := ⟨_, rfl⟩
      have HV : Hid (WalkV (wkF ls f t) (wkA ls f t) (wkW ls f t) (wkN ls f t) = WalkV vF vA vW 2) := by show _ = _; rw [hF, hA, hW, hN, hvF, hvA, hvW]
      have HvF := Lib.hid hvF
      have HvA := Lib.hid hvA
      have HvW := Lib.hid hvW
      clear hF hA hW hN hvF hvA hvW
      have H1 := Lib.hid h1
      have H2 := Lib.hid h2
      have H3 := Lib.hid h3
      have HO := Lib.hid ho
      clear h1 h2 h3 ho
      have HO2 := Lib.hid ho2
      clear ho2
      refine (implWalk_c w1.heap.size x1 c1 ls f t _ HMM1.out (by have := HZ1.out; omega) HS.out).mono ?_
      rintro e w2 ⟨rfl, hg2⟩
      rw [HV.out]
      unfold WalkV
      have HB2 := Lib.hid (below_none HB1.out (Nat.le_refl _) hg2)
      have HZ2 := Lib.hid hg2.size
      have HOM2 := Lib.hid (HOM1.out.gnone hg2)
      have HMM2 := Lib.hid (HMM1.out.gnone hg2 (by have := HZ1.out; omega))
      clear hg2
      have hal := World.grownBy_alloc w2 (.cells #[.int .i64 vF, .int .i64 vA, .bool vW] 27) none
      have HCA3 : Hid ((w2.alloc (.cells #[.int .i64 vF, .int .i64 vA, .bool vW] 27)).cell? ⟨w2.heap.size, 0, none⟩ = some (.int .i64 vF) ∧ (w2.alloc (.cells #[.int .i64 vF, .int .i64 vA, .bool vW] 27)).cell? ⟨w2.heap.size, 1, none⟩ = some (.int .i64 vA) ∧ (w2.alloc (.cells #[.int .i64 vF, .int .i64 vA, .bool vW] 27)).cell? ⟨w2.heap.size, 2, none⟩ = some (.bool vW)) := ⟨cell_new _ _ _ 0 _ rfl, cell_new _ _ _ 1 _ rfl, cell_new _ _ _ 2 _ rfl⟩
      clear hal
      go_wp2_with fail
      have hg3 := World.grownBy_alloc w2 (.cells #[.int .i64 vF, .int .i64 vA, .bool vW] 27) none
      generalize w2.alloc (.cells #[.int .i64 vF, .int .i64 vA, .bool vW] 27) = w3 at *
      have HB3 := Lib.hid (below_none HB2.out (Nat.le_refl _) hg3)
      have HZ3 := Lib.hid hg3.size
      have HOM3 := Lib.hid (HOM2.out.gnone hg3)
      have HMM3 := Lib.hid (HMM2.out.gnone hg3 (by have := HZ1.out; have := HZ2.out; omega))
      clear hg3
      refine (specWalk_c w1.heap.size x1 c1 ls f t _ HMM3.out (by have := HZ1.out; have := HZ2.out; have := HZ3.out; omega) HS.out).mono ?_
      rintro e w4 ⟨rfl, hg4⟩
      rw [HV.out]
      unfold WalkV
      have HB4 := Lib.hid (below_none HB3.out (Nat.le_refl _) hg4)
      have HZ4 := Lib.hid hg4.size
      have HOM4 := Lib.hid (HOM3.out.gnone hg4)
      have HMM4 := Lib.hid (HMM3.out.gnone hg4 (by have := HZ1.out; have := HZ2.out; have := HZ3.out; omega))
      have HCA4 : Hid (w4.cell? ⟨w2.heap.size, 0, none⟩ = some (.int .i64 vF) ∧ w4.cell? ⟨w2.heap.size, 1, none⟩ = some (.int .i64 vA) ∧ w4.cell? ⟨w2.heap.size, 2, none⟩ = some (.bool vW)) := ⟨hg4.cell HCA3.out.1 (by simp), hg4.cell HCA3.out.2.1 (by simp), hg4.cell HCA3.out.2.2 (by simp)⟩
      clear hg4
      have hal := World.grownBy_alloc w4 (.cells #[.int .i64 vF, .int .i64 vA, .bool vW] 27) none
      have HCA5 : Hid ((w4.alloc (.cells #[.int .i64 vF, .int .i64 vA, .bool vW] 27)).cell? ⟨w2.heap.size, 0, none⟩ = some (.int .i64 vF) ∧ (w4.alloc (.cells #[.int .i64 vF, .int .i64 vA, .bool vW] 27)).cell? ⟨w2.heap.size, 1, none⟩ = some (.int .i64 vA) ∧ (w4.alloc (.cells #[.int .i64 vF, .int .i64 vA, .bool vW] 27)).cell? ⟨w2.heap.size, 2, none⟩ = some (.bool vW)) := ⟨hal.cell HCA4.out.1 (by simp), hal.cell HCA4.out.2.1 (by simp), hal.cell HCA4.out.2.2 (by simp)⟩
      have HCB5 : Hid ((w4.alloc (.cells #[.int .i64 vF, .int .i64 vA, .bool vW] 27)).cell? ⟨w4.heap.size, 0, none⟩ = some (.int .i64 vF) ∧ (w4.alloc (.cells #[.int .i64 vF, .int .i64 vA, .bool vW] 27)).cell? ⟨w4.heap.size, 1, none⟩ = some (.int .i64 vA) ∧ (w4.alloc (.cells #[.int .i64 vF, .int .i64 vA, .bool vW] 27)).cell? ⟨w4.heap.size, 2, none⟩ = some (.bool vW)) := ⟨cell_new _ _ _ 0 _ rfl, cell_new _ _ _ 1 _ rfl, cell_new _ _ _ 2 _ rfl⟩
      clear hal
      have a0 := HCA5.out.1
      have a1 := HCA5.out.2.1
      have a2 := HCA5.out.2.2
      have HMw := Lib.hid (HMM4.out.gnone (World.grownBy_alloc w4 (.cells #[.int .i64 vF, .int .i64 vA, .bool vW] 27) none) (by have := HZ1.out; have := HZ2.out; have := HZ3.out; have := HZ4.out; omega))
      have HBw := Lib.hid (below_none HB4.out (Nat.le_refl _) (World.grownBy_alloc w4 (.cells #[.int .i64 vF, .int .i64 vA, .bool vW] 27) none))
      have h1 := H1.out
      have f0 := (inR_iff.1 H2.out).1
      have f1 := (inR_iff.1 H2.out).2
      have t0 := (inR_iff.1 H3.out).1
      have t1 := (inR_iff.1 H3.out).2
      have q1 : decide (f < 0) = false := by simp; omega
      have q2 : decide (12 ≤ f) = false := by simp; omega
      have q3 : decide (t < 0) = false := by simp; omega
      have q4 : decide (64 ≤ t) = false := by simp; omega
      go_wp2_with (go_at_call 12; refine (implMemoryValid_c _ _ _ ls _ HMw.out HS.out).mono ?_; rintro e w' ⟨rfl, rfl⟩)
      go_ret
      exact ⟨rfl, HBw.out⟩
    · obtain ⟨vF, hvF⟩ : ∃ vF : Int, vF = egF (wkY ls f t) := ⟨_, rfl⟩
      obtain ⟨vA, hvA⟩ : ∃ vA : Int, vA = acC t := ⟨_, rfl⟩
      obtain ⟨vW, hvW⟩ : ∃ vW : Bool, vW = (egW (wkX ls f t) && egW (wkY ls f t)) := ⟨_, rfl⟩
      have HV : Hid (WalkV (wkF ls f t) (wkA ls f t) (wkW ls f t) (wkN ls f t) = WalkV vF vA vW 0) := by show _ = _; rw [hF, hA, hW, hN, hvF, hvA, hvW]
      have HvF := Lib.hid hvF
      have HvA := Lib.hid hvA
      have HvW := Lib.hid hvW
      clear hF hA hW hN hvF hvA hvW
      have H1 := Lib.hid h1
      have H2 := Lib.hid h2
      have H3 := Lib.hid h3
      have HO := Lib.hid ho
      clear h1 h2 h3 ho
      have HO2 := Lib.hid ho2
      clear ho2
      refine (implWalk_c w1.heap.size x1 c1 ls f t _ HMM1.out (by have := HZ1.out; omega) HS.out).mono ?_
      rintro e w2 ⟨rfl, hg2⟩
      rw [HV.out]
      unfold WalkV
      have HB2 := Lib.hid (below_none HB1.out (Nat.le_refl _) hg2)
      have HZ2 := Lib.hid hg2.size
      have HOM2 := Lib.hid (HOM1.out.gnone hg2)
      have HMM2 := Lib.hid (HMM1.out.gnone hg2 (by have := HZ1.out; omega))
      clear hg2
      have hal := World.grownBy_alloc w2 (.cells #[.int .i64 vF, .int .i64 vA, .bool vW] 27) none
      have HCA3 : Hid ((w2.alloc (.cells #[.int .i64 vF, .int .i64 vA, .bool vW] 27)).cell? ⟨w2.heap.size, 0, none⟩ = some (.int .i64 vF) ∧ (w2.alloc (.cells #[.int .i64 vF, .int .i64 vA, .bool vW] 27)).cell? ⟨w2.heap.size, 1, none⟩ = some (.int .i64 vA) ∧ (w2.alloc (.cells #[.int .i64 vF, .int .i64 vA, .bool vW] 27)).cell? ⟨w2.heap.size, 2, none⟩ = some (.bool vW)) := ⟨cell_new _ _ _ 0 _ rfl, cell_new _ _ _ 1 _ rfl, cell_new _ _ _ 2 _ rfl⟩
      clear hal
      go_wp2_with fail
      have hg3 := World.grownBy_alloc w2 (.cells #[.int .i64 vF, .int .i64 vA, .bool vW] 27) none
      generalize w2.alloc (.cells #[.int .i64 vF, .int .i64 vA, .bool vW] 27) = w3 at *
      have HB3 := Lib.hid (below_none HB2.out (Nat.le_refl _) hg3)
      have HZ3 := Lib.hid hg3.size
      have HOM3 := Lib.hid (HOM2.out.gnone hg3)
      have HMM3 := Lib.hid (HMM2.out.gnone hg3 (by have := HZ1.out; have := HZ2.out; omega))
      clear hg3
      refine (specWalk_c w1.heap.size x1 c1 ls f t _ HMM3.out (by have := HZ1.out; have := HZ2.out; have := HZ3.out; omega) HS.out).mono ?_
      rintro e w4 ⟨rfl, hg4⟩
      rw [HV.out]
      unfold WalkV
      have HB4 := Lib.hid (below_none HB3.out (Nat.le_refl _) hg4)
      have HZ4 := Lib.hid hg4.size
      have HOM4 := Lib.hid (HOM3.out.gnone hg4)
      have HMM4 := Lib.hid (HMM3.out.gnone hg4 (by have := HZ1.out; have := HZ2.out; have := HZ3.out; omega))
      have HCA4 : Hid (w4.cell? ⟨w2.heap.size, 0, none⟩ = some (.int .i64 vF) ∧ w4.cell? ⟨w2.heap.size, 1, none⟩ = some (.int .i64 vA) ∧ w4.cell? ⟨w2.heap.size, 2, none⟩ = some (.bool vW)) := ⟨hg4.cell HCA3.out.1 (by simp), hg4.cell HCA3.out.2.1 (by simp), hg4.cell HCA3.out.2.2 (by simp)⟩
      clear hg4
      have hal := World.grownBy_alloc w4 (.cells #[.int .i64 vF, .int .i64 vA, .bool vW] 27) none
      have HCA5 : Hid ((w4.alloc (.cells #[.int .i64 vF, .int .i64 vA, .bool vW] 27)).cell? ⟨w2.heap.size, 0, none⟩ = some (.int .i64 vF) ∧ (w4.alloc (.cells #[.int .i64 vF, .int .i64 vA, .bool vW] 27)).cell? ⟨w2.heap.size, 1, none⟩ = some (.int .i64 vA) ∧ (w4.alloc (.cells #[.int .i64 vF, .int .i64 vA, .bool vW] 27)).cell? ⟨w2.heap.size, 2, none⟩ = some (.bool vW)) := ⟨hal.cell HCA4.out.1 (by simp), hal.cell HCA4.out.2.1 (by simp), hal.cell HCA4.out.2.2 (by simp)⟩
      have HCB5 : Hid ((w4.alloc (.cells #[.int .i64 vF, .int .i64 vA, .bool vW] 27)).cell? ⟨w4.heap.size, 0, none⟩ = some (.int .i64 vF) ∧ (w4.alloc (.cells #[.int .i64 vF, .int .i64 vA, .bool vW] 27)).cell? ⟨w4.heap.size, 1, none⟩ = some (.int .i64 vA) ∧ (w4.alloc (.cells #[.int .i64 vF, .int .i64 vA, .bool vW] 27)).cell? ⟨w4.heap.size, 2, none⟩ = some (.bool vW)) := ⟨cell_new _ _ _ 0 _ rfl, cell_new _ _ _ 1 _ rfl, cell_new _ _ _ 2 _ rfl⟩
      clear hal
      have a0 := HCA5.out.1
      have a1 := HCA5.out.2.1
      have a2 := HCA5.out.2.2
      have HMw := Lib.hid (HMM4.out.gnone (World.grownBy_alloc w4 (.cells #[.int .i64 vF, .int .i64 vA, .bool vW] 27) none) (by have := HZ1.out; have := HZ2.out; have := HZ3.out; have := HZ4.out; omega))
      have HBw := Lib.hid (below_none HB4.out (Nat.le_refl _) (World.grownBy_alloc w4 (.cells #[.int .i64 vF, .int .i64 vA, .bool vW] 27) none))
      have h1 := H1.out
      have f0 := (inR_iff.1 H2.out).1
      have f1 := (inR_iff.1 H2.out).2
      have t0 := (inR_iff.1 H3.out).1
      have t1 := (inR_iff.1 H3.out).2
      have q1 : decide (f < 0) = false := by simp; omega
      have q2 : decide (12 ≤ f) = false := by simp; omega
      have q3 : decide (t < 0) = false := by simp; omega
      have q4 : decide (64 ≤ t) = false := by simp; omega
      go_wp2_with (go_at_call 12; refine (implMemoryValid_c _ _ _ ls _ HMw.out HS.out).mono ?_; rintro e w' ⟨rfl, rfl⟩)
      go_ret
      exact ⟨rfl, HBw.out⟩
set_option maxHeartbeats 4000000 in
theorem FnWalk_w (a : Option Addr) (len cap : Nat) (w : World) (hB : Bytes w w.heap.size a len) (hc : len ≤ cap) (hm : len ≤ maxLen) :
    Calls Try.prog 3 #[.slice a len cap] w fun e w' => e = .returned (.bool true) ∧ Below w.heap.size w w' := by
  have HB := Lib.hid hB
  clear hB
  by_cases hl : (1048576 : Int) < (len : Int)
  · go_enter Try.func3, Try.ntmps3
    go_wp2_with fail
    go_ret
    exact ⟨rfl, Below.refl _ _⟩
  · go_enter Try.func3, Try.ntmps3
    go_wp2_with fail
    refine (DrawWalk_c a len cap w HB.out hc hm).mono ?_
    rintro e w1 ⟨v, ls, f, t, rfl, hd⟩
    have HS := Lib.hid hd.small
    obtain ⟨x1, c1, rfl, hlc, _, hm1⟩ := hd.1.mem
    have HOM1 := Lib.hid hd.1
    have HMM1 := Lib.hid hm1
    have HB1 := Lib.hid hd.2.2.2
    have HZ1 := Lib.hid hd.2.2.2.size
    have HC1 := Lib.hid hlc
    clear hd hm1 hlc
    go_wp2_with fail
    rcases wk_cases ls f t with ⟨hB0, hF, hA, hW, hN, hbad⟩ | ⟨h1, h2, h3, ⟨ho, hF, hA, hW, hN⟩ | ⟨ho, ho2, hF, hA, hW, hN⟩ | ⟨ho, ho2, hF, hA, hW, hN⟩⟩
    · obtain ⟨vF, hvF⟩ : ∃ vF : Int, vF = 0 := ⟨_, rfl⟩
      obtain ⟨vA, hvA⟩ : ∃ vA : Int, vA = 0 := ⟨_, rfl⟩
      obtain ⟨vW, hvW⟩ : ∃ vW : Bool, vW = false := ⟨_, rfl⟩
      have HV : Hid (WalkV (wkF ls f t) (wkA ls f t) (wkW ls f t) (wkN ls f t) = WalkV vF vA vW 3) := by show _ = _; rw [hF, hA, hW, hN, hvF, hvA, hvW]
      have HvF := Lib.hid hvF
      have HvA := Lib.hid hvA
      have HvW := Lib.hid hvW
      clear hF hA hW hN hvF hvA hvW
      have HBad := Lib.hid hbad
      clear hB0 hbad
      refine (implWalk_c w1.heap.size x1 c1 ls f t _ HMM1.out (by have := HZ1.out; omega) HS.out).mono ?_
      rintro e w2 ⟨rfl, hg2⟩
      rw [HV.out]
      unfold WalkV
      have HB2 := Lib.hid (below_none HB1.out (Nat.le_refl _) hg2)
      have HZ2 := Lib.hid hg2.size
      have HOM2 := Lib.hid (HOM1.out.gnone hg2)
      have HMM2 := Lib.hid (HMM1.out.gnone hg2 (by have := HZ1.out; omega))
      clear hg2
      have hal := World.grownBy_alloc w2 (.cells #[.int .i64 vF, .int .i64 vA, .bool vW] 27) none
      have HCA3 : Hid ((w2.alloc (.cells #[.int .i64 vF, .int .i64 vA, .bool vW] 27)).cell? ⟨w2.heap.size, 0, none⟩ = some (.int .i64 vF) ∧ (w2.alloc (.cells #[.int .i64 vF, .int .i64 vA, .bool vW] 27)).cell? ⟨w2.heap.size, 1, none⟩ = some (.int .i64 vA) ∧ (w2.alloc (.cells #[.int .i64 vF, .int .i64 vA, .bool vW] 27)).cell? ⟨w2.heap.size, 2, none⟩ = some (.bool vW)) := ⟨cell_new _ _ _ 0 _ rfl, cell_new _ _ _ 1 _ rfl, cell_new _ _ _ 2 _ rfl⟩
      clear hal
      go_wp2_with fail
      have hg3 := World.grownBy_alloc w2 (.cells #[.int .i64 vF, .int .i64 vA, .bool vW] 27) none
      generalize w2.alloc (.cells #[.int .i64 vF, .int .i64 vA, .bool vW] 27) = w3 at *
      have HB3 := Lib.hid (below_none HB2.out (Nat.le_refl _) hg3)
      have HZ3 := Lib.hid hg3.size
      have HOM3 := Lib.hid (HOM2.out.gnone hg3)
      have HMM3 := Lib.hid (HMM2.out.gnone hg3 (by have := HZ1.out; have := HZ2.out; omega))
      clear hg3
      refine (specWalk_c w1.heap.size x1 c1 ls f t _ HMM3.out (by have := HZ1.out; have := HZ2.out; have := HZ3.out; omega) HS.out).mono ?_
      rintro e w4 ⟨rfl, hg4⟩
      rw [HV.out]
      unfold WalkV
      have HB4 := Lib.hid (below_none HB3.out (Nat.le_refl _) hg4)
      have HZ4 := Lib.hid hg4.size
      have HOM4 := Lib.hid (HOM3.out.gnone hg4)
      have HMM4 := Lib.hid (HMM3.out.gnone hg4 (by have := HZ1.out; have := HZ2.out; have := HZ3.out; omega))
      have HCA4 : Hid (w4.cell? ⟨w2.heap.size, 0, none⟩ = some (.int .i64 vF) ∧ w4.cell? ⟨w2.heap.size, 1, none⟩ = some (.int .i64 vA) ∧ w4.cell? ⟨w2.heap.size, 2, none⟩ = some (.bool vW)) := ⟨hg4.cell HCA3.out.1 (by simp), hg4.cell HCA3.out.2.1 (by simp), hg4.cell HCA3.out.2.2 (by simp)⟩
      clear hg4
      have hal := World.grownBy_alloc w4 (.cells #[.int .i64 vF, .int .i64 vA, .bool vW] 27) none
      have HCA5 : Hid ((w4.alloc (.cells #[.int .i64 vF, .int .i64 vA, .bool vW] 27)).cell? ⟨w2.heap.size, 0, none⟩ = some (.int .i64 vF) ∧ (w4.alloc (.cells #[.int .i64 vF, .int .i64 vA, .bool vW] 27)).cell? ⟨w2.heap.size, 1, none⟩ = some (.int .i64 vA) ∧ (w4.alloc (.cells #[.int .i64 vF, .int .i64 vA, .bool vW] 27)).cell? ⟨w2.heap.size, 2, none⟩ = some (.bool vW)) := ⟨hal.cell HCA4.out.1 (by simp), hal.cell HCA4.out.2.1 (by simp), hal.cell HCA4.out.2.2 (by simp)⟩
      have HCB5 : Hid ((w4.alloc (.cells #[.int .i64 vF, .int .i64 vA, .bool vW] 27)).cell? ⟨w4.heap.size, 0, none⟩ = some (.int .i64 vF) ∧ (w4.alloc (.cells #[.int .i64 vF, .int .i64 vA, .bool vW] 27)).cell? ⟨w4.heap.size, 1, none⟩ = some (.int .i64 vA) ∧ (w4.alloc (.cells #[.int .i64 vF, .int .i64 vA, .bool vW] 27)).cell? ⟨w4.heap.size, 2, none⟩ = some (.bool vW)) := ⟨cell_new _ _ _ 0 _ rfl, cell_new _ _ _ 1 _ rfl, cell_new _ _ _ 2 _ rfl⟩
      clear hal
      have a0 := HCA5.out.1
      have a1 := HCA5.out.2.1
      have a2 := HCA5.out.2.2
      have HMw := Lib.hid (HMM4.out.gnone (World.grownBy_alloc w4 (.cells #[.int .i64 vF, .int .i64 vA, .bool vW] 27) none) (by have := HZ1.out; have := HZ2.out; have := HZ3.out; have := HZ4.out; omega))
      have HBw := Lib.hid (below_none HB4.out (Nat.le_refl _) (World.grownBy_alloc w4 (.cells #[.int .i64 vF, .int .i64 vA, .bool vW] 27) none))
      go_wp2_with fail
      go_ret
      exact ⟨rfl, HBw.out⟩
    · obtain ⟨vF, hvF⟩ : ∃ vF : Int, vF = 0 := ⟨_, rfl⟩
      obtain ⟨vA, hvA⟩ : ∃ vA : Int, vA = 0 := ⟨_, rfl⟩
      obtain ⟨vW, hvW⟩ : ∃ vW : Bool, vW = false := ⟨_, rfl⟩
      have HV : Hid (WalkV (wkF ls f t) (wkA ls f t) (wkW ls f t) (wkN ls f t) = WalkV vF vA vW 1) := by show _ = _; rw [hF, hA, hW, hN, hvF, hvA, hvW]
      have HvF := Lib.hid hvF
      have HvA := Lib.hid hvA
      have HvW := Lib.hid hvW
      clear hF hA hW hN hvF hvA hvW
      have H1 := Lib.hid h1
      have H2 := Lib.hid h2
      have H3 := Lib.hid h3
      have HO := Lib.hid ho
      clear h1 h2 h3 ho
      refine (implWalk_c w1.heap.size x1 c1 ls f t _ HMM1.out (by have := HZ1.out; omega) HS.out).mono ?_
      rintro e w2 ⟨rfl, hg2⟩
      rw [HV.out]
      unfold WalkV
      have HB2 := Lib.hid (below_none HB1.out (Nat.le_refl _) hg2)
      have HZ2 := Lib.hid hg2.size
      have HOM2 := Lib.hid (HOM1.out.gnone hg2)
      have HMM2 := Lib.hid (HMM1.out.gnone hg2 (by have := HZ1.out; omega))
      clear hg2
      have hal := World.grownBy_alloc w2 (.cells #[.int .i64 vF, .int .i64 vA, .bool vW] 27) none
      have HCA3 : Hid ((w2.alloc (.cells #[.int .i64 vF, .int .i64 vA, .bool vW] 27)).cell? ⟨w2.heap.size, 0, none⟩ = some (.int .i64 vF) ∧ (w2.alloc (.cells #[.int .i64 vF, .int .i64 vA, .bool vW] 27)).cell? ⟨w2.heap.size, 1, none⟩ = some (.int .i64 vA) ∧ (w2.alloc (.cells #[.int .i64 vF, .int .i64 vA, .bool vW] 27)).cell? ⟨w2.heap.size, 2, none⟩ = some (.bool vW)) := ⟨cell_new _ _ _ 0 _ rfl, cell_new _ _ _ 1 _ rfl, cell_new _ _ _ 2 _ rfl⟩
      clear hal
      go_wp2_with fail
      have hg3 := World.grownBy_alloc w2 (.cells #[.int .i64 vF, .int .i64 vA, .bool vW] 27) none
      generalize w2.alloc (.cells #[.int .i64 vF, .int .i64 vA, .bool vW] 27) = w3 at *
      have HB3 := Lib.hid (below_none HB2.out (Nat.le_refl _) hg3)
      have HZ3 := Lib.hid hg3.size
      have HOM3 := Lib.hid (HOM2.out.gnone hg3)
      have HMM3 := Lib.hid (HMM2.out.gnone hg3 (by have := HZ1.out; have := HZ2.out; omega))
      clear hg3
      refine (specWalk_c w1.heap.size x1 c1 ls f t _ HMM3.out (by have := HZ1.out; have := HZ2.out; have := HZ3.out; omega) HS.out).mono ?_
      rintro e w4 ⟨rfl, hg4⟩
      rw [HV.out]
      unfold WalkV
      have HB4 := Lib.hid (below_none HB3.out (Nat.le_refl _) hg4)
      have HZ4 := Lib.hid hg4.size
      have HOM4 := Lib.hid (HOM3.out.gnone hg4)
      have HMM4 := Lib.hid (HMM3.out.gnone hg4 (by have := HZ1.out; have := HZ2.out; have := HZ3.out; omega))
      have HCA4 : Hid (w4.cell? ⟨w2.heap.size, 0, none⟩ = some (.int .i64 vF) ∧ w4.cell? ⟨w2.heap.size, 1, none⟩ = some (.int .i64 vA) ∧ w4.cell? ⟨w2.heap.size, 2, none⟩ = some (.bool vW)) := ⟨hg4.cell HCA3.out.1 (by simp), hg4.cell HCA3.out.2.1 (by simp), hg4.cell HCA3.out.2.2 (by simp)⟩
      clear hg4
      have hal := World.grownBy_alloc w4 (.cells #[.int .i64 vF, .int .i64 vA, .bool vW] 27) none
      have HCA5 : Hid ((w4.alloc (.cells #[.int .i64 vF, .int .i64 vA, .bool vW] 27)).cell? ⟨w2.heap.size, 0, none⟩ = some (.int .i64 vF) ∧ (w4.alloc (.cells #[.int .i64 vF, .int .i64 vA, .bool vW] 27)).cell? ⟨w2.heap.size, 1, none⟩ = some (.int .i64 vA) ∧ (w4.alloc (.cells #[.int .i64 vF, .int .i64 vA, .bool vW] 27)).cell? ⟨w2.heap.size, 2, none⟩ = some (.bool vW)) := ⟨hal.cell HCA4.out.1 (by simp), hal.cell HCA4.out.2.1 (by simp), hal.cell HCA4.out.2.2 (by simp)⟩
      have HCB5 : Hid ((w4.alloc (.cells #[.int .i64 vF, .int .i64 vA, .bool vW] 27)).cell? ⟨w4.heap.size, 0, none⟩ = some (.int .i64 vF) ∧ (w4.alloc (.cells #[.int .i64 vF, .int .i64 vA, .bool vW] 27)).cell? ⟨w4.heap.size, 1, none⟩ = some (.int .i64 vA) ∧ (w4.alloc (.cells #[.int .i64 vF, .int .i64 vA, .bool vW] 27)).cell? ⟨w4.heap.size, 2, none⟩ = some (.bool vW)) := ⟨cell_new _ _ _ 0 _ rfl, cell_new _ _ _ 1 _ rfl, cell_new _ _ _ 2 _ rfl⟩
      clear hal
      have a0 := HCA5.out.1
      have a1 := HCA5.out.2.1
      have a2 := HCA5.out.2.2
      have HMw := Lib.hid (HMM4.out.gnone (World.grownBy_alloc w4 (.cells #[.int .i64 vF, .int .i64 vA, .bool vW] 27) none) (by have := HZ1.out; have := HZ2.out; have := HZ3.out; have := HZ4.out; omega))
      have HBw := Lib.hid (below_none HB4.out (Nat.le_refl _) (World.grownBy_alloc w4 (.cells #[.int .i64 vF, .int .i64 vA, .bool vW] 27) none))
      go_wp2_with fail
      go_ret
      exact ⟨rfl, HBw.out⟩
    · obtain ⟨vF, hvF⟩ : ∃ vF : Int, vF = 0 := ⟨_, rfl⟩
      obtain ⟨vA, hvA⟩ : ∃ vA : Int, vA = 0 := ⟨_, rfl⟩
      obtain ⟨vW, hvW⟩ : ∃ vW : Bool, vW = false := ⟨_, rfl⟩
      have HV : Hid (WalkV (wkF ls f t) (wkA ls f t) (wkW ls f t) (wkN ls f t) = WalkV vF vA vW 2) := by show _ = _; rw [hF, hA, hW, hN, hvF, hvA, hvW]
      have HvF := Lib.hid hvF
      have HvA := Lib.hid hvA
      have HvW := Lib.hid hvW
      clear hF hA hW hN hvF hvA hvW
      have H1 := Lib.hid h1
      have H2 := Lib.hid h2
      have H3 := Lib.hid h3
      have HO := Lib.hid ho
      clear h1 h2 h3 ho
      have HO2 := Lib.hid ho2
      clear ho2
      refine (implWalk_c w1.heap.size x1 c1 ls f t _ HMM1.out (by have := HZ1.out; omega) HS.out).mono ?_
      rintro e w2 ⟨rfl, hg2⟩
      rw [HV.out]
      unfold WalkV
      have HB2 := Lib.hid (below_none HB1.out (Nat.le_refl _) hg2)
      have HZ2 := Lib.hid hg2.size
      have HOM2 := Lib.hid (HOM1.out.gnone hg2)
      have HMM2 := Lib.hid (HMM1.out.gnone hg2 (by have := HZ1.out; omega))
      clear hg2
      have hal := World.grownBy_alloc w2 (.cells #[.int .i64 vF, .int .i64 vA, .bool vW] 27) none
      have HCA3 : Hid ((w2.alloc (.cells #[.int .i64 vF, .int .i64 vA, .bool vW] 27)).cell? ⟨w2.heap.size, 0, none⟩ = some (.int .i64 vF) ∧ (w2.alloc (.cells #[.int .i64 vF, .int .i64 vA, .bool vW] 27)).cell? ⟨w2.heap.size, 1, none⟩ = some (.int .i64 vA) ∧ (w2.alloc (.cells #[.int .i64 vF, .int .i64 vA, .bool vW] 27)).cell? ⟨w2.heap.size, 2, none⟩ = some (.bool vW)) := ⟨cell_new _ _ _ 0 _ rfl, cell_new _ _ _ 1 _ rfl, cell_new _ _ _ 2 _ rfl⟩
      clear hal
      go_wp2_with fail
      have hg3 := World.grownBy_alloc w2 (.cells #[.int .i64 vF, .int .i64 vA, .bool vW] 27) none
      generalize w2.alloc (.cells #[.int .i64 vF, .int .i64 vA, .bool vW] 27) = w3 at *
      have HB3 := Lib.hid (below_none HB2.out (Nat.le_refl _) hg3)
      have HZ3 := Lib.hid hg3.size
      have HOM3 := Lib.hid (HOM2.out.gnone hg3)
      have HMM3 := Lib.hid (HMM2.out.gnone hg3 (by have := HZ1.out; have := HZ2.out; omega))
      clear hg3
      refine (specWalk_c w1.heap.size x1 c1 ls f t _ HMM3.out (by have := HZ1.out; have := HZ2.out; have := HZ3.out; omega) HS.out).mono ?_
      rintro e w4 ⟨rfl, hg4⟩
      rw [HV.out]
      unfold WalkV
      have HB4 := Lib.hid (below_none HB3.out (Nat.le_refl _) hg4)
      have HZ4 := Lib.hid hg4.size
      have HOM4 := Lib.hid (HOM3.out.gnone hg4)
      have HMM4 := Lib.hid (HMM3.out.gnone hg4 (by have := HZ1.out; have := HZ2.out; have := HZ3.out; omega))
      have HCA4 : Hid (w4.cell? ⟨w2.heap.size, 0, none⟩ = some (.int .i64 vF) ∧ w4.cell? ⟨w2.heap.size, 1, none⟩ = some (.int .i64 vA) ∧ w4.cell? ⟨w2.heap.size, 2, none⟩ = some (.bool vW)) := ⟨hg4.cell HCA3.out.1 (by simp), hg4.cell HCA3.out.2.1 (by simp), hg4.cell HCA3.out.2.2 (by simp)⟩
      clear hg4
      have hal := World.grownBy_alloc w4 (.cells #[.int .i64 vF, .int .i64 vA, .bool vW] 27) none
      have HCA5 : Hid ((w4.alloc (.cells #[.int .i64 vF, .int .i64 vA, .bool vW] 27)).cell? ⟨w2.heap.size, 0, none⟩ = some (.int .i64 vF) ∧ (w4.alloc (.cells #[.int .i64 vF, .int .i64 vA, .bool vW] 27)).cell? ⟨w2.heap.size, 1, none⟩ = some (.int .i64 vA) ∧ (w4.alloc (.cells #[.int .i64 vF, .int .i64 vA, .bool vW] 27)).cell? ⟨w2.heap.size, 2, none⟩ = some (.bool vW)) := ⟨hal.cell HCA4.out.1 (by simp), hal.cell HCA4.out.2.1 (by simp), hal.cell HCA4.out.2.2 (by simp)⟩
      have HCB5 : Hid ((w4.alloc (.cells #[.int .i64 vF, .int .i64 vA, .bool vW] 27)).cell? ⟨w4.heap.size, 0, none⟩ = some (.int .i64 vF) ∧ (w4.alloc (.cells #[.int .i64 vF, .int .i64 vA, .bool vW] 27)).cell? ⟨w4.heap.size, 1, none⟩ = some (.int .i64 vA) ∧ (w4.alloc (.cells #[.int .i64 vF, .int .i64 vA, .bool vW] 27)).cell? ⟨w4.heap.size, 2, none⟩ = some (.bool vW)) := ⟨cell_new _ _ _ 0 _ rfl, cell_new _ _ _ 1 _ rfl, cell_new _ _ _ 2 _ rfl⟩
      clear hal
      have a0 := HCA5.out.1
      have a1 := HCA5.out.2.1
      have a2 := HCA5.out.2.2
      have HMw := Lib.hid (HMM4.out.gnone (World.grownBy_alloc w4 (.cells #[.int .i64 vF, .int .i64 vA, .bool vW] 27) none) (by have := HZ1.out; have := HZ2.out; have := HZ3.out; have := HZ4.out; omega))
      have HBw := Lib.hid (below_none HB4.out (Nat.le_refl _) (World.grownBy_alloc w4 (.cells #[.int .i64 vF, .int .i64 vA, .bool vW] 27) none))
      go_wp2_with fail
      go_ret
      exact ⟨rfl, HBw.out⟩
    · obtain ⟨vF, hvF⟩ : ∃ vF : Int, vF = egF (wkY ls f t) := ⟨_, rfl⟩
      obtain ⟨vA, hvA⟩ : ∃ vA : Int, vA = acC t := ⟨_, rfl⟩
      obtain ⟨vW, hvW⟩ : ∃ vW : Bool, vW = (egW (wkX ls f t) && egW (wkY ls f t)) := ⟨_, rfl⟩
      have HV : Hid (WalkV (wkF ls f t) (wkA ls f t) (wkW ls f t) (wkN ls f t) = WalkV vF vA vW 0) := by show _ = _; rw [hF, hA, hW, hN, hvF, hvA, hvW]
      have HvF := Lib.hid hvF
      have HvA := Lib.hid hvA
      have HvW := Lib.hid hvW
      clear hF hA hW hN hvF hvA hvW
      have H1 := Lib.hid h1
      have H2 := Lib.hid h2
      have H3 := Lib.hid h3
      have HO := Lib.hid ho
      clear h1 h2 h3 ho
      have HO2 := Lib.hid ho2
      clear ho2
      refine (implWalk_c w1.heap.size x1 c1 ls f t _ HMM1.out (by have := HZ1.out; omega) HS.out).mono ?_
      rintro e w2 ⟨rfl, hg2⟩
      rw [HV.out]
      unfold WalkV
      have HB2 := Lib.hid (below_none HB1.out (Nat.le_refl _) hg2)
      have HZ2 := Lib.hid hg2.size
      have HOM2 := Lib.hid (HOM1.out.gnone hg2)
      have HMM2 := Lib.hid (HMM1.out.gnone hg2 (by have := HZ1.out; omega))
      clear hg2
      have hal := World.grownBy_alloc w2 (.cells #[.int .i64 vF, .int .i64 vA, .bool vW] 27) none
      have HCA3 : Hid ((w2.alloc (.cells #[.int .i64 vF, .int .i64 vA, .bool vW] 27)).cell? ⟨w2.heap.size, 0, none⟩ = some (.int .i64 vF) ∧ (w2.alloc (.cells #[.int .i64 vF, .int .i64 vA, .bool vW] 27)).cell? ⟨w2.heap.size, 1, none⟩ = some (.int .i64 vA) ∧ (w2.alloc (.cells #[.int .i64 vF, .int .i64 vA, .bool vW] 27)).cell? ⟨w2.heap.size, 2, none⟩ = some (.bool vW)) := ⟨cell_new _ _ _ 0 _ rfl, cell_new _ _ _ 1 _ rfl, cell_new _ _ _ 2 _ rfl⟩
      clear hal
      go_wp2_with fail
      have hg3 := World.grownBy_alloc w2 (.cells #[.int .i64 vF, .int .i64 vA, .bool vW] 27) none
      generalize w2.alloc (.cells #[.int .i64 vF, .int .i64 vA, .bool vW] 27) = w3 at *
      have HB3 := Lib.hid (below_none HB2.out (Nat.le_refl _) hg3)
      have HZ3 := Lib.hid hg3.size
      have HOM3 := Lib.hid (HOM2.out.gnone hg3)
      have HMM3 := Lib.hid (HMM2.out.gnone hg3 (by have := HZ1.out; have := HZ2.out; omega))
      clear hg3
      refine (specWalk_c w1.heap.size x1 c1 ls f t _ HMM3.out (by have := HZ1.out; have := HZ2.out; have := HZ3.out; omega) HS.out).mono ?_
      rintro e w4 ⟨rfl, hg4⟩
      rw [HV.out]
      unfold WalkV
      have HB4 := Lib.hid (below_none HB3.out (Nat.le_refl _) hg4)
      have HZ4 := Lib.hid hg4.size
      have HOM4 := Lib.hid (HOM3.out.gnone hg4)
      have HMM4 := Lib.hid (HMM3.out.gnone hg4 (by have := HZ1.out; have := HZ2.out; have := HZ3.out; omega))
      have HCA4 : Hid (w4.cell? ⟨w2.heap.size, 0, none⟩ = some (.int .i64 vF) ∧ w4.cell? ⟨w2.heap.size, 1, none⟩ = some (.int .i64 vA) ∧ w4.cell? ⟨w2.heap.size, 2, none⟩ = some (.bool vW)) := ⟨hg4.cell HCA3.out.1 (by simp), hg4.cell HCA3.out.2.1 (by simp), hg4.cell HCA3.out.2.2 (by simp)⟩
      clear hg4
      have hal := World.grownBy_alloc w4 (.cells #[.int .i64 vF, .int .i64 vA, .bool vW] 27) none
      have HCA5 : Hid ((w4.alloc (.cells #[.int .i64 vF, .int .i64 vA, .bool vW] 27)).cell? ⟨w2.heap.size, 0, none⟩ = some (.int .i64 vF) ∧ (w4.alloc (.cells #[.int .i64 vF, .int .i64 vA, .bool vW] 27)).cell? ⟨w2.heap.size, 1, none⟩ = some (.int .i64 vA) ∧ (w4.alloc (.cells #[.int .i64 vF, .int .i64 vA, .bool vW] 27)).cell? ⟨w2.heap.size, 2, none⟩ = some (.bool vW)) := ⟨hal.cell HCA4.out.1 (by simp), hal.cell HCA4.out.2.1 (by simp), hal.cell HCA4.out.2.2 (by simp)⟩
      have HCB5 : Hid ((w4.alloc (.cells #[.int .i64 vF, .int .i64 vA, .bool vW] 27)).cell? ⟨w4.heap.size, 0, none⟩ = some (.int .i64 vF) ∧ (w4.alloc (.cells #[.int .i64 vF, .int .i64 vA, .bool vW] 27)).cell? ⟨w4.heap.size, 1, none⟩ = some (.int .i64 vA) ∧ (w4.alloc (.cells #[.int .i64 vF, .int .i64 vA, .bool vW] 27)).cell? ⟨w4.heap.size, 2, none⟩ = some (.bool vW)) := ⟨cell_new _ _ _ 0 _ rfl, cell_new _ _ _ 1 _ rfl, cell_new _ _ _ 2 _ rfl⟩
      clear hal
      have a0 := HCA5.out.1
      have a1 := HCA5.out.2.1
      have a2 := HCA5.out.2.2
      have HMw := Lib.hid (HMM4.out.gnone (World.grownBy_alloc w4 (.cells #[.int .i64 vF, .int .i64 vA, .bool vW] 27) none) (by have := HZ1.out; have := HZ2.out; have := HZ3.out; have := HZ4.out; omega))
      have HBw := Lib.hid (below_none HB4.out (Nat.le_refl _) (World.grownBy_alloc w4 (.cells #[.int .i64 vF, .int .i64 vA, .bool vW] 27) none))
      have f0 := (inR_iff.1 H2.out).1
      have f1 := (inR_iff.1 H2.out).2
      obtain ⟨-, -, -, aA0, aA1, aB0, aB1, aC0, aC1⟩ := ac_bd H3.out
      obtain ⟨b, off, b', off', rc, ha, hc1, hc2⟩ := mv_cells HMw.out H1.out f0 f1 aA0 aA1
      obtain ⟨x0, x1'⟩ := cellM_bd H1.out f0 f1 aA0 aA1
      subst ha
      have hlen : ls.length = 12 := (mv_shape H1.out).1
      have hfl : f < (ls.length : Int) := by omega
      have hA4 : acA t < 4 := by omega
      have hB4 : acB t < 4 := by omega
      have ho : egO (cellM ls f (acA t)) = true := HO.out
      have ho2 : egO (cellM ls (egF (cellM ls f (acA t))) (acB t)) = true := HO2.out
      have hvF : vF = egF (cellM ls (egF (cellM ls f (acA t))) (acB t)) := HvF.out
      have hvA : vA = acC t := HvA.out
      have hvW : vW = (egW (cellM ls f (acA t)) && egW (cellM ls (egF (cellM ls f (acA t))) (acB t))) := HvW.out
      obtain ⟨g0, g1⟩ := eg_bd ho
      obtain ⟨b2, off2, b3, off3, rc2, ha2, hc3, hc4⟩ := mv_cells HMw.out H1.out g0 g1 aB0 aB1
      obtain ⟨y0, y1⟩ := cellM_bd H1.out g0 g1 aB0 aB1
      simp only [Option.some.injEq, Addr.mk.injEq, and_true] at ha2
      obtain ⟨rfl, rfl⟩ := ha2
      have hgl : egF (cellM ls f (acA t)) < (ls.length : Int) := by omega
      clear hlen HV HvF HvA HvW HO HO2
      generalize cellM ls (egF (cellM ls f (acA t))) (acB t) = Y at *
      generalize cellM ls f (acA t) = X at *
      subst hvF hvA
      rcases hWx : egW X
      · have hv : vW = false := by rw [hvW, hWx]; rfl
        clear hvW
        subst hv
        go_wp2_with (first | (go_at_call 10; refine (implAddressCut_c _ _).mono ?_; rintro e w' ⟨rfl, rfl⟩) | (go_at_call 11; refine (implEntryGet_c _ _ (by omega)).mono ?_; rintro e w' ⟨rfl, rfl⟩))
        go_ret
        exact ⟨by simp, HBw.out⟩
      · have hv : vW = egW Y := by rw [hvW, hWx]; rfl
        clear hvW
        subst hv
        go_wp2_with (first | (go_at_call 10; refine (implAddressCut_c _ _).mono ?_; rintro e w' ⟨rfl, rfl⟩) | (go_at_call 11; refine (implEntryGet_c _ _ (by omega)).mono ?_; rintro e w' ⟨rfl, rfl⟩))
        go_ret
        exact ⟨by simp, HBw.out⟩
set_option maxHeartbeats 4000000 in
theorem FnWalkTop_w (a : Option Addr) (len cap : Nat) (w : World) (hB : Bytes w w.heap.size a len) (hc : len ≤ cap) (hm : len ≤ maxLen) :
    Calls Try.prog 6 #[.slice a len cap] w fun e w' => e = .returned (.bool true) ∧ Below w.heap.size w w' := by
  have HB := Lib.hid hB
  clear hB
  by_cases hl : (1048576 : Int) < (len : Int)
  · go_enter Try.func6, Try.ntmps6
    go_wp2_with fail
    go_ret
    exact ⟨rfl, Below.refl _ _⟩
  · go_enter Try.func6, Try.ntmps6
    go_wp2_with fail
    refine (DrawWalk_c a len cap w HB.out hc hm).mono ?_
    rintro e w1 ⟨v, ls, f, t, rfl, hd⟩
    have HS := Lib.hid hd.small
    obtain ⟨x1, c1, rfl, hlc, _, hm1⟩ := hd.1.mem
    have HOM1 := Lib.hid hd.1
    have HMM1 := Lib.hid hm1
    have HB1 := Lib.hid hd.2.2.2
    have HZ1 := Lib.hid hd.2.2.2.size
    have HC1 := Lib.hid hlc
    clear hd hm1 hlc
    go_wp2_with fail
    rcases wk_cases ls f t with ⟨hB0, hF, hA, hW, hN, hbad⟩ | ⟨h1, h2, h3, ⟨ho, hF, hA, hW, hN⟩ | ⟨ho, ho2, hF, hA, hW, hN⟩ | ⟨ho, ho2, hF, hA, hW, hN⟩⟩
    · obtain ⟨vF, hvF⟩ : ∃ vF : Int, vF = 0 := ⟨_, rfl⟩
      obtain ⟨vA, hvA⟩ : ∃ vA : Int, vA = 0 := ⟨_, rfl⟩
      obtain ⟨vW, hvW⟩ : ∃ vW : Bool, vW = false := ⟨_, rfl⟩
      have HV : Hid (WalkV (wkF ls f t) (wkA ls f t) (wkW ls f t) (wkN ls f t) = WalkV vF vA vW 3) := by show _ = _; rw [hF, hA, hW, hN, hvF, hvA, hvW]
      have HvF := Lib.hid hvF
      have HvA := Lib.hid hvA
      have HvW := Lib.hid hvW
      clear hF hA hW hN hvF hvA hvW
      have HBad := Lib.hid hbad
      clear hB0 hbad
      refine (implWalk_c w1.heap.size x1 c1 ls f t _ HMM1.out (by have := HZ1.out; omega) HS.out).mono ?_
      rintro e w2 ⟨rfl, hg2⟩
      rw [HV.out]
      unfold WalkV
      have HB2 := Lib.hid (below_none HB1.out (Nat.le_refl _) hg2)
      have HZ2 := Lib.hid hg2.size
      have HOM2 := Lib.hid (HOM1.out.gnone hg2)
      have HMM2 := Lib.hid (HMM1.out.gnone hg2 (by have := HZ1.out; omega))
      clear hg2
      have hal := World.grownBy_alloc w2 (.cells #[.int .i64 vF, .int .i64 vA, .bool vW] 27) none
      have HCA3 : Hid ((w2.alloc (.cells #[.int .i64 vF, .int .i64 vA, .bool vW] 27)).cell? ⟨w2.heap.size, 0, none⟩ = some (.int .i64 vF) ∧ (w2.alloc (.cells #[.int .i64 vF, .int .i64 vA, .bool vW] 27)).cell? ⟨w2.heap.size, 1, none⟩ = some (.int .i64 vA) ∧ (w2.alloc (.cells #[.int .i64 vF, .int .i64 vA, .bool vW] 27)).cell? ⟨w2.heap.size, 2, none⟩ = some (.bool vW)) := ⟨cell_new _ _ _ 0 _ rfl, cell_new _ _ _ 1 _ rfl, cell_new _ _ _ 2 _ rfl⟩
      clear hal
      go_wp2_with fail
      have hg3 := World.grownBy_alloc w2 (.cells #[.int .i64 vF, .int .i64 vA, .bool vW] 27) none
      generalize w2.alloc (.cells #[.int .i64 vF, .int .i64 vA, .bool vW] 27) = w3 at *
      have HB3 := Lib.hid (below_none HB2.out (Nat.le_refl _) hg3)
      have HZ3 := Lib.hid hg3.size
      have HOM3 := Lib.hid (HOM2.out.gnone hg3)
      have HMM3 := Lib.hid (HMM2.out.gnone hg3 (by have := HZ1.out; have := HZ2.out; omega))
      clear hg3
      refine (specWalk_c w1.heap.size x1 c1 ls f t _ HMM3.out (by have := HZ1.out; have := HZ2.out; have := HZ3.out; omega) HS.out).mono ?_
      rintro e w4 ⟨rfl, hg4⟩
      rw [HV.out]
      unfold WalkV
      have HB4 := Lib.hid (below_none HB3.out (Nat.le_refl _) hg4)
      have HZ4 := Lib.hid hg4.size
      have HOM4 := Lib.hid (HOM3.out.gnone hg4)
      have HMM4 := Lib.hid (HMM3.out.gnone hg4 (by have := HZ1.out; have := HZ2.out; have := HZ3.out; omega))
      have HCA4 : Hid (w4.cell? ⟨w2.heap.size, 0, none⟩ = some (.int .i64 vF) ∧ w4.cell? ⟨w2.heap.size, 1, none⟩ = some (.int .i64 vA) ∧ w4.cell? ⟨w2.heap.size, 2, none⟩ = some (.bool vW)) := ⟨hg4.cell HCA3.out.1 (by simp), hg4.cell HCA3.out.2.1 (by simp), hg4.cell HCA3.out.2.2 (by simp)⟩
      clear hg4
      have hal := World.grownBy_alloc w4 (.cells #[.int .i64 vF, .int .i64 vA, .bool vW] 27) none
      have HCA5 : Hid ((w4.alloc (.cells #[.int .i64 vF, .int .i64 vA, .bool vW] 27)).cell? ⟨w2.heap.size, 0, none⟩ = some (.int .i64 vF) ∧ (w4.alloc (.cells #[.int .i64 vF, .int .i64 vA, .bool vW] 27)).cell? ⟨w2.heap.size, 1, none⟩ = some (.int .i64 vA) ∧ (w4.alloc (.cells #[.int .i64 vF, .int .i64 vA, .bool vW] 27)).cell? ⟨w2.heap.size, 2, none⟩ = some (.bool vW)) := ⟨hal.cell HCA4.out.1 (by simp), hal.cell HCA4.out.2.1 (by simp), hal.cell HCA4.out.2.2 (by simp)⟩
      have HCB5 : Hid ((w4.alloc (.cells #[.int .i64 vF, .int .i64 vA, .bool vW] 27)).cell? ⟨w4.heap.size, 0, none⟩ = some (.int .i64 vF) ∧ (w4.alloc (.cells #[.int .i64 vF, .int .i64 vA, .bool vW] 27)).cell? ⟨w4.heap.size, 1, none⟩ = some (.int .i64 vA) ∧ (w4.alloc (.cells #[.int .i64 vF, .int .i64 vA, .bool vW] 27)).cell? ⟨w4.heap.size, 2, none⟩ = some (.bool vW)) := ⟨cell_new _ _ _ 0 _ rfl, cell_new _ _ _ 1 _ rfl, cell_new _ _ _ 2 _ rfl⟩
      clear hal
      have a0 := HCA5.out.1
      have a1 := HCA5.out.2.1
      have a2 := HCA5.out.2.2
      have HMw := Lib.hid (HMM4.out.gnone (World.grownBy_alloc w4 (.cells #[.int .i64 vF, .int .i64 vA, .bool vW] 27) none) (by have := HZ1.out; have := HZ2.out; have := HZ3.out; have := HZ4.out; omega))
      have HBw := Lib.hid (below_none HB4.out (Nat.le_refl _) (World.grownBy_alloc w4 (.cells #[.int .i64 vF, .int .i64 vA, .bool vW] 27) none))
      go_wp2_with fail
      go_ret
      exact ⟨rfl, HBw.out⟩
    · obtain ⟨vF, hvF⟩ : ∃ vF : Int, vF = 0 := ⟨_, rfl⟩
      obtain ⟨vA, hvA⟩ : ∃ vA : Int, vA = 0 := ⟨_, rfl⟩
      obtain ⟨vW, hvW⟩ : ∃ vW : Bool, vW = false := ⟨_, rfl⟩
      have HV : Hid (WalkV (wkF ls f t) (wkA ls f t) (wkW ls f t) (wkN ls f t) = WalkV vF vA vW 1) := by show _ = _; rw [hF, hA, hW, hN, hvF, hvA, hvW]
      have HvF := Lib.hid hvF
      have HvA := Lib.hid hvA
      have HvW := Lib.hid hvW
      clear hF hA hW hN hvF hvA hvW
      have H1 := Lib.hid h1
      have H2 := Lib.hid h2
      have H3 := Lib.hid h3
      have HO := Lib.hid ho
      clear h1 h2 h3 ho
      refine (implWalk_c w1.heap.size x1 c1 ls f t _ HMM1.out (by have := HZ1.out; omega) HS.out).mono ?_
      rintro e w2 ⟨rfl, hg2⟩
      rw [HV.out]
      unfold WalkV
      have HB2 := Lib.hid (below_none HB1.out (Nat.le_refl _) hg2)
      have HZ2 := Lib.hid hg2.size
      have HOM2 := Lib.hid (HOM1.out.gnone hg2)
      have HMM2 := Lib.hid (HMM1.out.gnone hg2 (by have := HZ1.out; omega))
      clear hg2
      have hal := World.grownBy_alloc w2 (.cells #[.int .i64 vF, .int .i64 vA, .bool vW] 27) none
      have HCA3 : Hid ((w2.alloc (.cells #[.int .i64 vF, .int .i64 vA, .bool vW] 27)).cell? ⟨w2.heap.size, 0, none⟩ = some (.int .i64 vF) ∧ (w2.alloc (.cells #[.int .i64 vF, .int .i64 vA, .bool vW] 27)).cell? ⟨w2.heap.size, 1, none⟩ = some (.int .i64 vA) ∧ (w2.alloc (.cells #[.int .i64 vF, .int .i64 vA, .bool vW] 27)).cell? ⟨w2.heap.size, 2, none⟩ = some (.bool vW)) := ⟨cell_new _ _ _ 0 _ rfl, cell_new _ _ _ 1 _ rfl, cell_new _ _ _ 2 _ rfl⟩
      clear hal
      go_wp2_with fail
      have hg3 := World.grownBy_alloc w2 (.cells #[.int .i64 vF, .int .i64 vA, .bool vW] 27) none
      generalize w2.alloc (.cells #[.int .i64 vF, .int .i64 vA, .bool vW] 27) = w3 at *
      have HB3 := Lib.hid (below_none HB2.out (Nat.le_refl _) hg3)
      have HZ3 := Lib.hid hg3.size
      have HOM3 := Lib.hid (HOM2.out.gnone hg3)
      have HMM3 := Lib.hid (HMM2.out.gnone hg3 (by have := HZ1.out; have := HZ2.out; omega))
      clear hg3
      refine (specWalk_c w1.heap.size x1 c1 ls f t _ HMM3.out (by have := HZ1.out; have := HZ2.out; have := HZ3.out; omega) HS.out).mono ?_
      rintro e w4 ⟨rfl, hg4⟩
      rw [HV.out]
      unfold WalkV
      have HB4 := Lib.hid (below_none HB3.out (Nat.le_refl _) hg4)
      have HZ4 := Lib.hid hg4.size
      have HOM4 := Lib.hid (HOM3.out.gnone hg4)
      have HMM4 := Lib.hid (HMM3.out.gnone hg4 (by have := HZ1.out; have := HZ2.out; have := HZ3.out; omega))
      have HCA4 : Hid (w4.cell? ⟨w2.heap.size, 0, none⟩ = some (.int .i64 vF) ∧ w4.cell? ⟨w2.heap.size, 1, none⟩ = some (.int .i64 vA) ∧ w4.cell? ⟨w2.heap.size, 2, none⟩ = some (.bool vW)) := ⟨hg4.cell HCA3.out.1 (by simp), hg4.cell HCA3.out.2.1 (by simp), hg4.cell HCA3.out.2.2 (by simp)⟩
      clear hg4
      have hal := World.grownBy_alloc w4 (.cells #[.int .i64 vF, .int .i64 vA, .bool vW] 27) none
      have HCA5 : Hid ((w4.alloc (.cells #[.int .i64 vF, .int .i64 vA, .bool vW] 27)).cell? ⟨w2.heap.size, 0, none⟩ = some (.int .i64 vF) ∧ (w4.alloc (.cells #[.int .i64 vF, .int .i64 vA, .bool vW] 27)).cell? ⟨w2.heap.size, 1, none⟩ = some (.int .i64 vA) ∧ (w4.alloc (.cells #[.int .i64 vF, .int .i64 vA, .bool vW] 27)).cell? ⟨w2.heap.size, 2, none⟩ = some (.bool vW)) := ⟨hal.cell HCA4.out.1 (by simp), hal.cell HCA4.out.2.1 (by simp), hal.cell HCA4.out.2.2 (by simp)⟩
      have HCB5 : Hid ((w4.alloc (.cells #[.int .i64 vF, .int .i64 vA, .bool vW] 27)).cell? ⟨w4.heap.size, 0, none⟩ = some (.int .i64 vF) ∧ (w4.alloc (.cells #[.int .i64 vF, .int .i64 vA, .bool vW] 27)).cell? ⟨w4.heap.size, 1, none⟩ = some (.int .i64 vA) ∧ (w4.alloc (.cells #[.int .i64 vF, .int .i64 vA, .bool vW] 27)).cell? ⟨w4.heap.size, 2, none⟩ = some (.bool vW)) := ⟨cell_new _ _ _ 0 _ rfl, cell_new _ _ _ 1 _ rfl, cell_new _ _ _ 2 _ rfl⟩
      clear hal
      have a0 := HCA5.out.1
      have a1 := HCA5.out.2.1
      have a2 := HCA5.out.2.2
      have HMw := Lib.hid (HMM4.out.gnone (World.grownBy_alloc w4 (.cells #[.int .i64 vF, .int .i64 vA, .bool vW] 27) none) (by have := HZ1.out; have := HZ2.out; have := HZ3.out; have := HZ4.out; omega))
      have HBw := Lib.hid (below_none HB4.out (Nat.le_refl _) (World.grownBy_alloc w4 (.cells #[.int .i64 vF, .int .i64 vA, .bool vW] 27) none))
      have f0 := (inR_iff.1 H2.out).1
      have f1 := (inR_iff.1 H2.out).2
      obtain ⟨-, -, -, aA0, aA1, aB0, aB1, aC0, aC1⟩ := ac_bd H3.out
      obtain ⟨b, off, b', off', rc, ha, hc1, hc2⟩ := mv_cells HMw.out H1.out f0 f1 aA0 aA1
      obtain ⟨x0, x1'⟩ := cellM_bd H1.out f0 f1 aA0 aA1
      subst ha
      have hlen : ls.length = 12 := (mv_shape H1.out).1
      have hfl : f < (ls.length : Int) := by omega
      have hA4 : acA t < 4 := by omega
      have hB4 : acB t < 4 := by omega
      have ho : egO (cellM ls f (acA t)) = false := HO.out
      have hvF := HvF.out
      have hvA := HvA.out
      have hvW := HvW.out
      clear hlen HV HvF HvA HvW HO
      subst hvF hvA hvW
      generalize cellM ls f (acA t) = X at *
      go_wp2_with (first | (go_at_call 10; refine (implAddressCut_c _ _).mono ?_; rintro e w' ⟨rfl, rfl⟩) | (go_at_call 11; refine (implEntryGet_c _ _ (by omega)).mono ?_; rintro e w' ⟨rfl, rfl⟩))
      go_ret
      exact ⟨by simp, HBw.out⟩
    · obtain ⟨vF, hvF⟩ : ∃ vF : Int, vF = 0 := ⟨_, rfl⟩
      obtain ⟨vA, hvA⟩ : ∃ vA : Int, vA = 0 := ⟨_, rfl⟩
      obtain ⟨vW, hvW⟩ : ∃ vW : Bool, vW = false := ⟨_, rfl⟩
      have HV : Hid (WalkV (wkF ls f t) (wkA ls f t) (wkW ls f t) (wkN ls f t) = WalkV vF vA vW 2) := by show _ = _; rw [hF, hA, hW, hN, hvF, hvA, hvW]
      have HvF := Lib.hid hvF
      have HvA := Lib.hid hvA
      have HvW := Lib.hid hvW
      clear hF hA hW hN hvF hvA hvW
      have H1 := Lib.hid h1
      have H2 := Lib.hid h2
      have H3 := Lib.hid h3
      have HO := Lib.hid ho
      clear h1 h2 h3 ho
      have HO2 := Lib.hid ho2
      clear ho2
      refine (implWalk_c w1.heap.size x1 c1 ls f t _ HMM1.out (by have := HZ1.out; omega) HS.out).mono ?_
      rintro e w2 ⟨rfl, hg2⟩
      rw [HV.out]
      unfold WalkV
      have HB2 := Lib.hid (below_none HB1.out (Nat.le_refl _) hg2)
      have HZ2 := Lib.hid hg2.size
      have HOM2 := Lib.hid (HOM1.out.gnone hg2)
      have HMM2 := Lib.hid (HMM1.out.gnone hg2 (by have := HZ1.out; omega))
      clear hg2
      have hal := World.grownBy_alloc w2 (.cells #[.int .i64 vF, .int .i64 vA, .bool vW] 27) none
      have HCA3 : Hid ((w2.alloc (.cells #[.int .i64 vF, .int .i64 vA, .bool vW] 27)).cell? ⟨w2.heap.size, 0, none⟩ = some (.int .i64 vF) ∧ (w2.alloc (.cells #[.int .i64 vF, .int .i64 vA, .bool vW] 27)).cell? ⟨w2.heap.size, 1, none⟩ = some (.int .i64 vA) ∧ (w2.alloc (.cells #[.int .i64 vF, .int .i64 vA, .bool vW] 27)).cell? ⟨w2.heap.size, 2, none⟩ = some (.bool vW)) := ⟨cell_new _ _ _ 0 _ rfl, cell_new _ _ _ 1 _ rfl, cell_new _ _ _ 2 _ rfl⟩
      clear hal
      go_wp2_with fail
      have hg3 := World.grownBy_alloc w2 (.cells #[.int .i64 vF, .int .i64 vA, .bool vW] 27) none
      generalize w2.alloc (.cells #[.int .i64 vF, .int .i64 vA, .bool vW] 27) = w3 at *
      have HB3 := Lib.hid (below_none HB2.out (Nat.le_refl _) hg3)
      have HZ3 := Lib.hid hg3.size
      have HOM3 := Lib.hid (HOM2.out.gnone hg3)
      have HMM3 := Lib.hid (HMM2.out.gnone hg3 (by have := HZ1.out; have := HZ2.out; omega))
      clear hg3
      refine (specWalk_c w1.heap.size x1 c1 ls f t _ HMM3.out (by have := HZ1.out; have := HZ2.out; have := HZ3.out; omega) HS.out).mono ?_
      rintro e w4 ⟨rfl, hg4⟩
      rw [HV.out]
      unfold WalkV
      have HB4 := Lib.hid (below_none HB3.out (Nat.le_refl _) hg4)
      have HZ4 := Lib.hid hg4.size
      have HOM4 := Lib.hid (HOM3.out.gnone hg4)
      have HMM4 := Lib.hid (HMM3.out.gnone hg4 (by have := HZ1.out; have := HZ2.out; have := HZ3.out; omega))
      have HCA4 : Hid (w4.cell? ⟨w2.heap.size, 0, none⟩ = some (.int .i64 vF) ∧ w4.cell? ⟨w2.heap.size, 1, none⟩ = some (.int .i64 vA) ∧ w4.cell? ⟨w2.heap.size, 2, none⟩ = some (.bool vW)) := ⟨hg4.cell HCA3.out.1 (by simp), hg4.cell HCA3.out.2.1 (by simp), hg4.cell HCA3.out.2.2 (by simp)⟩
      clear hg4
      have hal := World.grownBy_alloc w4 (.cells #[.int .i64 vF, .int .i64 vA, .bool vW] 27) none
      have HCA5 : Hid ((w4.alloc (.cells #[.int .i64 vF, .int .i64 vA, .bool vW] 27)).cell? ⟨w2.heap.size, 0, none⟩ = some (.int .i64 vF) ∧ (w4.alloc (.cells #[.int .i64 vF, .int .i64 vA, .bool vW] 27)).cell? ⟨w2.heap.size, 1, none⟩ = some (.int .i64 vA) ∧ (w4.alloc (.cells #[.int .i64 vF, .int .i64 vA, .bool vW] 27)).cell? ⟨w2.heap.size, 2, none⟩ = some (.bool vW)) := ⟨hal.cell HCA4.out.1 (by simp), hal.cell HCA4.out.2.1 (by simp), hal.cell HCA4.out.2.2 (by simp)⟩
      have HCB5 : Hid ((w4.alloc (.cells #[.int .i64 vF, .int .i64 vA, .bool vW] 27)).cell? ⟨w4.heap.size, 0, none⟩ = some (.int .i64 vF) ∧ (w4.alloc (.cells #[.int .i64 vF, .int .i64 vA, .bool vW] 27)).cell? ⟨w4.heap.size, 1, none⟩ = some (.int .i64 vA) ∧ (w4.alloc (.cells #[.int .i64 vF, .int .i64 vA, .bool vW] 27)).cell? ⟨w4.heap.size, 2, none⟩ = some (.bool vW)) := ⟨cell_new _ _ _ 0 _ rfl, cell_new _ _ _ 1 _ rfl, cell_new _ _ _ 2 _ rfl⟩
      clear hal
      have a0 := HCA5.out.1
      have a1 := HCA5.out.2.1
      have a2 := HCA5.out.2.2
      have HMw := Lib.hid (HMM4.out.gnone (World.grownBy_alloc w4 (.cells #[.int .i64 vF, .int .i64 vA, .bool vW] 27) none) (by have := HZ1.out; have := HZ2.out; have := HZ3.out; have := HZ4.out; omega))
      have HBw := Lib.hid (below_none HB4.out (Nat.le_refl _) (World.grownBy_alloc w4 (.cells #[.int .i64 vF, .int .i64 vA, .bool vW] 27) none))
      have f0 := (inR_iff.1 H2.out).1
      have f1 := (inR_iff.1 H2.out).2
      obtain ⟨-, -, -, aA0, aA1, aB0, aB1, aC0, aC1⟩ := ac_bd H3.out
      obtain ⟨b, off, b', off', rc, ha, hc1, hc2⟩ := mv_cells HMw.out H1.out f0 f1 aA0 aA1
      obtain ⟨x0, x1'⟩ := cellM_bd H1.out f0 f1 aA0 aA1
      subst ha
      have hlen : ls.length = 12 := (mv_shape H1.out).1
      have hfl : f < (ls.length : Int) := by omega
      have hA4 : acA t < 4 := by omega
      have hB4 : acB t < 4 := by omega
      have ho : egO (cellM ls f (acA t)) = true := HO.out
      have hvF := HvF.out
      have hvA := HvA.out
      have hvW := HvW.out
      clear hlen HV HvF HvA HvW HO
      subst hvF hvA hvW
      generalize cellM ls f (acA t) = X at *
      go_wp2_with (first | (go_at_call 10; refine (implAddressCut_c _ _).mono ?_; rintro e w' ⟨rfl, rfl⟩) | (go_at_call 11; refine (implEntryGet_c _ _ (by omega)).mono ?_; rintro e w' ⟨rfl, rfl⟩))
      go_ret
      exact ⟨by simp, HBw.out⟩
    · obtain ⟨vF, hvF⟩ : ∃ vF : Int, vF = egF (wkY ls f t) := ⟨_, rfl⟩
      obtain ⟨vA, hvA⟩ : ∃ vA : Int, vA = acC t := ⟨_, rfl⟩
      obtain ⟨vW, hvW⟩ : ∃ vW : Bool, vW = (egW (wkX ls f t) && egW (wkY ls f t)) := ⟨_, rfl⟩
      have HV : Hid (WalkV (wkF ls f t) (wkA ls f t) (wkW ls f t) (wkN ls f t) = WalkV vF vA vW 0) := by show _ = _; rw [hF, hA, hW, hN, hvF, hvA, hvW]
      have HvF := Lib.hid hvF
      have HvA := Lib.hid hvA
      have HvW := Lib.hid hvW
      clear hF hA hW hN hvF hvA hvW
      have H1 := Lib.hid h1
      have H2 := Lib.hid h2
      have H3 := Lib.hid h3
      have HO := Lib.hid ho
      clear h1 h2 h3 ho
      have HO2 := Lib.hid ho2
      clear ho2
      refine (implWalk_c w1.heap.size x1 c1 ls f t _ HMM1.out (by have := HZ1.out; omega) HS.out).mono ?_
      rintro e w2 ⟨rfl, hg2⟩
      rw [HV.out]
      unfold WalkV
      have HB2 := Lib.hid (below_none HB1.out (Nat.le_refl _) hg2)
      have HZ2 := Lib.hid hg2.size
      have HOM2 := Lib.hid (HOM1.out.gnone hg2)
      have HMM2 := Lib.hid (HMM1.out.gnone hg2 (by have := HZ1.out; omega))
      clear hg2
      have hal := World.grownBy_alloc w2 (.cells #[.int .i64 vF, .int .i64 vA, .bool vW] 27) none
      have HCA3 : Hid ((w2.alloc (.cells #[.int .i64 vF, .int .i64 vA, .bool vW] 27)).cell? ⟨w2.heap.size, 0, none⟩ = some (.int .i64 vF) ∧ (w2.alloc (.cells #[.int .i64 vF, .int .i64 vA, .bool vW] 27)).cell? ⟨w2.heap.size, 1, none⟩ = some (.int .i64 vA) ∧ (w2.alloc (.cells #[.int .i64 vF, .int .i64 vA, .bool vW] 27)).cell? ⟨w2.heap.size, 2, none⟩ = some (.bool vW)) := ⟨cell_new _ _ _ 0 _ rfl, cell_new _ _ _ 1 _ rfl, cell_new _ _ _ 2 _ rfl⟩
      clear hal
      go_wp2_with fail
      have hg3 := World.grownBy_alloc w2 (.cells #[.int .i64 vF, .int .i64 vA, .bool vW] 27) none
      generalize w2.alloc (.cells #[.int .i64 vF, .int .i64 vA, .bool vW] 27) = w3 at *
      have HB3 := Lib.hid (below_none HB2.out (Nat.le_refl _) hg3)
      have HZ3 := Lib.hid hg3.size
      have HOM3 := Lib.hid (HOM2.out.gnone hg3)
      have HMM3 := Lib.hid (HMM2.out.gnone hg3 (by have := HZ1.out; have := HZ2.out; omega))
      clear hg3
      refine (specWalk_c w1.heap.size x1 c1 ls f t _ HMM3.out (by have := HZ1.out; have := HZ2.out; have := HZ3.out; omega) HS.out).mono ?_
      rintro e w4 ⟨rfl, hg4⟩
      rw [HV.out]
      unfold WalkV
      have HB4 := Lib.hid (below_none HB3.out (Nat.le_refl _) hg4)
      have HZ4 := Lib.hid hg4.size
      have HOM4 := Lib.hid (HOM3.out.gnone hg4)
      have HMM4 := Lib.hid (HMM3.out.gnone hg4 (by have := HZ1.out; have := HZ2.out; have := HZ3.out; omega))
      have HCA4 : Hid (w4.cell? ⟨w2.heap.size, 0, none⟩ = some (.int .i64 vF) ∧ w4.cell? ⟨w2.heap.size, 1, none⟩ = some (.int .i64 vA) ∧ w4.cell? ⟨w2.heap.size, 2, none⟩ = some (.bool vW)) := ⟨hg4.cell HCA3.out.1 (by simp), hg4.cell HCA3.out.2.1 (by simp), hg4.cell HCA3.out.2.2 (by simp)⟩
      clear hg4
      have hal := World.grownBy_alloc w4 (.cells #[.int .i64 vF, .int .i64 vA, .bool vW] 27) none
      have HCA5 : Hid ((w4.alloc (.cells #[.int .i64 vF, .int .i64 vA, .bool vW] 27)).cell? ⟨w2.heap.size, 0, none⟩ = some (.int .i64 vF) ∧ (w4.alloc (.cells #[.int .i64 vF, .int .i64 vA, .bool vW] 27)).cell? ⟨w2.heap.size, 1, none⟩ = some (.int .i64 vA) ∧ (w4.alloc (.cells #[.int .i64 vF, .int .i64 vA, .bool vW] 27)).cell? ⟨w2.heap.size, 2, none⟩ = some (.bool vW)) := ⟨hal.cell HCA4.out.1 (by simp), hal.cell HCA4.out.2.1 (by simp), hal.cell HCA4.out.2.2 (by simp)⟩
      have HCB5 : Hid ((w4.alloc (.cells #[.int .i64 vF, .int .i64 vA, .bool vW] 27)).cell? ⟨w4.heap.size, 0, none⟩ = some (.int .i64 vF) ∧ (w4.alloc (.cells #[.int .i64 vF, .int .i64 vA, .bool vW] 27)).cell? ⟨w4.heap.size, 1, none⟩ = some (.int .i64 vA) ∧ (w4.alloc (.cells #[.int .i64 vF, .int .i64 vA, .bool vW] 27)).cell? ⟨w4.heap.size, 2, none⟩ = some (.bool vW)) := ⟨cell_new _ _ _ 0 _ rfl, cell_new _ _ _ 1 _ rfl, cell_new _ _ _ 2 _ rfl⟩
      clear hal
      have a0 := HCA5.out.1
      have a1 := HCA5.out.2.1
      have a2 := HCA5.out.2.2
      have HMw := Lib.hid (HMM4.out.gnone (World.grownBy_alloc w4 (.cells #[.int .i64 vF, .int .i64 vA, .bool vW] 27) none) (by have := HZ1.out; have := HZ2.out; have := HZ3.out; have := HZ4.out; omega))
      have HBw := Lib.hid (below_none HB4.out (Nat.le_refl _) (World.grownBy_alloc w4 (.cells #[.int .i64 vF, .int .i64 vA, .bool vW] 27) none))
      have f0 := (inR_iff.1 H2.out).1
      have f1 := (inR_iff.1 H2.out).2
      obtain ⟨-, -, -, aA0, aA1, aB0, aB1, aC0, aC1⟩ := ac_bd H3.out
      obtain ⟨b, off, b', off', rc, ha, hc1, hc2⟩ := mv_cells HMw.out H1.out f0 f1 aA0 aA1
      obtain ⟨x0, x1'⟩ := cellM_bd H1.out f0 f1 aA0 aA1
      subst ha
      have hlen : ls.length = 12 := (mv_shape H1.out).1
      have hfl : f < (ls.length : Int) := by omega
      have hA4 : acA t < 4 := by omega
      have hB4 : acB t < 4 := by omega
      have ho : egO (cellM ls f (acA t)) = true := HO.out
      have hvF := HvF.out
      have hvA := HvA.out
      have hvW := HvW.out
      clear hlen HV HvF HvA HvW HO
      clear hvF hvA hvW
      generalize cellM ls f (acA t) = X at *
      go_wp2_with (first | (go_at_call 10; refine (implAddressCut_c _ _).mono ?_; rintro e w' ⟨rfl, rfl⟩) | (go_at_call 11; refine (implEntryGet_c _ _ (by omega)).mono ?_; rintro e w' ⟨rfl, rfl⟩))
      go_ret
      exact ⟨by simp, HBw.out⟩
set_option maxHeartbeats 4000000 in
theorem FnWalkPage_w (a : Option Addr) (len cap : Nat) (w : World) (hB : Bytes w w.heap.size a len) (hc : len ≤ cap) (hm : len ≤ maxLen) :
    Calls Try.prog 5 #[.slice a len cap] w fun e w' => e = .returned (.bool true) ∧ Below w.heap.size w w' := by
  have HB := Lib.hid hB
  clear hB
  by_cases hl : (1048576 : Int) < (len : Int)
  · go_enter Try.func5, Try.ntmps5
    go_wp2_with fail
    go_ret
    exact ⟨rfl, Below.refl _ _⟩
  · go_enter Try.func5, Try.ntmps5
    go_wp2_with fail
    refine (DrawWalk_c a len cap w HB.out hc hm).mono ?_
    rintro e w1 ⟨v, ls, f, t, rfl, hd⟩
    have HS := Lib.hid hd.small
    obtain ⟨x1, c1, rfl, hlc, _, hm1⟩ := hd.1.mem
    have HOM1 := Lib.hid hd.1
    have HMM1 := Lib.hid hm1
    have HB1 := Lib.hid hd.2.2.2
    have HZ1 := Lib.hid hd.2.2.2.size
    have HC1 := Lib.hid hlc
    clear hd hm1 hlc
    go_wp2_with fail
    rcases wk_cases ls f t with ⟨hB0, hF, hA, hW, hN, hbad⟩ | ⟨h1, h2, h3, ⟨ho, hF, hA, hW, hN⟩ | ⟨ho, ho2, hF, hA, hW, hN⟩ | ⟨ho, ho2, hF, hA, hW, hN⟩⟩
    · obtain ⟨vF, hvF⟩ : ∃ vF : Int, vF = 0 := ⟨_, rfl⟩
      obtain ⟨vA, hvA⟩ : ∃ vA : Int, vA = 0 := ⟨_, rfl⟩
      obtain ⟨vW, hvW⟩ : ∃ vW : Bool, vW = false := ⟨_, rfl⟩
      have HV : Hid (WalkV (wkF ls f t) (wkA ls f t) (wkW ls f t) (wkN ls f t) = WalkV vF vA vW 3) := by show _ = _; rw [hF, hA, hW, hN, hvF, hvA, hvW]
      have HvF := Lib.hid hvF
      have HvA := Lib.hid hvA
      have HvW := Lib.hid hvW
      clear hF hA hW hN hvF hvA hvW
      have HBad := Lib.hid hbad
      clear hB0 hbad
      refine (implWalk_c w1.heap.size x1 c1 ls f t _ HMM1.out (by have := HZ1.out; omega) HS.out).mono ?_
      rintro e w2 ⟨rfl, hg2⟩
      rw [HV.out]
      unfold WalkV
      have HB2 := Lib.hid (below_none HB1.out (Nat.le_refl _) hg2)
      have HZ2 := Lib.hid hg2.size
      have HOM2 := Lib.hid (HOM1.out.gnone hg2)
      have HMM2 := Lib.hid (HMM1.out.gnone hg2 (by have := HZ1.out; omega))
      clear hg2
      have hal := World.grownBy_alloc w2 (.cells #[.int .i64 vF, .int .i64 vA, .bool vW] 27) none
      have HCA3 : Hid ((w2.alloc (.cells #[.int .i64 vF, .int .i64 vA, .bool vW] 27)).cell? ⟨w2.heap.size, 0, none⟩ = some (.int .i64 vF) ∧ (w2.alloc (.cells #[.int .i64 vF, .int .i64 vA, .bool vW] 27)).cell? ⟨w2.heap.size, 1, none⟩ = some (.int .i64 vA) ∧ (w2.alloc (.cells #[.int .i64 vF, .int .i64 vA, .bool vW] 27)).cell? ⟨w2.heap.size, 2, none⟩ = some (.bool vW)) := ⟨cell_new _ _ _ 0 _ rfl, cell_new _ _ _ 1 _ rfl, cell_new _ _ _ 2 _ rfl⟩
      clear hal
      go_wp2_with fail
      have hg3 := World.grownBy_alloc w2 (.cells #[.int .i64 vF, .int .i64 vA, .bool vW] 27) none
      generalize w2.alloc (.cells #[.int .i64 vF, .int .i64 vA, .bool vW] 27) = w3 at *
      have HB3 := Lib.hid (below_none HB2.out (Nat.le_refl _) hg3)
      have HZ3 := Lib.hid hg3.size
      have HOM3 := Lib.hid (HOM2.out.gnone hg3)
      have HMM3 := Lib.hid (HMM2.out.gnone hg3 (by have := HZ1.out; have := HZ2.out; omega))
      clear hg3
      refine (specWalk_c w1.heap.size x1 c1 ls f t _ HMM3.out (by have := HZ1.out; have := HZ2.out; have := HZ3.out; omega) HS.out).mono ?_
      rintro e w4 ⟨rfl, hg4⟩
      rw [HV.out]
      unfold WalkV
      have HB4 := Lib.hid (below_none HB3.out (Nat.le_refl _) hg4)
      have HZ4 := Lib.hid hg4.size
      have HOM4 := Lib.hid (HOM3.out.gnone hg4)
      have HMM4 := Lib.hid (HMM3.out.gnone hg4 (by have := HZ1.out; have := HZ2.out; have := HZ3.out; omega))
      have HCA4 : Hid (w4.cell? ⟨w2.heap.size, 0, none⟩ = some (.int .i64 vF) ∧ w4.cell? ⟨w2.heap.size, 1, none⟩ = some (.int .i64 vA) ∧ w4.cell? ⟨w2.heap.size, 2, none⟩ = some (.bool vW)) := ⟨hg4.cell HCA3.out.1 (by simp), hg4.cell HCA3.out.2.1 (by simp), hg4.cell HCA3.out.2.2 (by simp)⟩
      clear hg4
      have hal := World.grownBy_alloc w4 (.cells #[.int .i64 vF, .int .i64 vA, .bool vW] 27) none
      have HCA5 : Hid ((w4.alloc (.cells #[.int .i64 vF, .int .i64 vA, .bool vW] 27)).cell? ⟨w2.heap.size, 0, none⟩ = some (.int .i64 vF) ∧ (w4.alloc (.cells #[.int .i64 vF, .int .i64 vA, .bool vW] 27)).cell? ⟨w2.heap.size, 1, none⟩ = some (.int .i64 vA) ∧ (w4.alloc (.cells #[.int .i64 vF, .int .i64 vA, .bool vW] 27)).cell? ⟨w2.heap.size, 2, none⟩ = some (.bool vW)) := ⟨hal.cell HCA4.out.1 (by simp), hal.cell HCA4.out.2.1 (by simp), hal.cell HCA4.out.2.2 (by simp)⟩
      have HCB5 : Hid ((w4.alloc (.cells #[.int .i64 vF, .int .i64 vA, .bool vW] 27)).cell? ⟨w4.heap.size, 0, none⟩ = some (.int .i64 vF) ∧ (w4.alloc (.cells #[.int .i64 vF, .int .i64 vA, .bool vW] 27)).cell? ⟨w4.heap.size, 1, none⟩ = some (.int .i64 vA) ∧ (w4.alloc (.cells #[.int .i64 vF, .int .i64 vA, .bool vW] 27)).cell? ⟨w4.heap.size, 2, none⟩ = some (.bool vW)) := ⟨cell_new _ _ _ 0 _ rfl, cell_new _ _ _ 1 _ rfl, cell_new _ _ _ 2 _ rfl⟩
      clear hal
      have a0 := HCA5.out.1
      have a1 := HCA5.out.2.1
      have a2 := HCA5.out.2.2
      have HMw := Lib.hid (HMM4.out.gnone (World.grownBy_alloc w4 (.cells #[.int .i64 vF, .int .i64 vA, .bool vW] 27) none) (by have := HZ1.out; have := HZ2.out; have := HZ3.out; have := HZ4.out; omega))
      have HBw := Lib.hid (below_none HB4.out (Nat.le_refl _) (World.grownBy_alloc w4 (.cells #[.int .i64 vF, .int .i64 vA, .bool vW] 27) none))
      go_wp2_with fail
      go_ret
      exact ⟨rfl, HBw.out⟩
    · obtain ⟨vF, hvF⟩ : ∃ vF : Int, vF = 0 := ⟨_, rfl⟩
      obtain ⟨vA, hvA⟩ : ∃ vA : Int, vA = 0 := ⟨_, rfl⟩
      obtain ⟨vW, hvW⟩ : ∃ vW : Bool, vW = false := ⟨_, rfl⟩
      have HV : Hid (WalkV (wkF ls f t) (wkA ls f t) (wkW ls f t) (wkN ls f t) = WalkV vF vA vW 1) := by show _ = _; rw [hF, hA, hW, hN, hvF, hvA, hvW]
      have HvF := Lib.hid hvF
      have HvA := Lib.hid hvA
      have HvW := Lib.hid hvW
      clear hF hA hW hN hvF hvA hvW
      have H1 := Lib.hid h1
      have H2 := Lib.hid h2
      have H3 := Lib.hid h3
      have HO := Lib.hid ho
      clear h1 h2 h3 ho
      refine (implWalk_c w1.heap.size x1 c1 ls f t _ HMM1.out (by have := HZ1.out; omega) HS.out).mono ?_
      rintro e w2 ⟨rfl, hg2⟩
      rw [HV.out]
      unfold WalkV
      have HB2 := Lib.hid (below_none HB1.out (Nat.le_refl _) hg2)
      have HZ2 := Lib.hid hg2.size
      have HOM2 := Lib.hid (HOM1.out.gnone hg2)
      have HMM2 := Lib.hid (HMM1.out.gnone hg2 (by have := HZ1.out; omega))
      clear hg2
      have hal := World.grownBy_alloc w2 (.cells #[.int .i64 vF, .int .i64 vA, .bool vW] 27) none
      have HCA3 : Hid ((w2.alloc (.cells #[.int .i64 vF, .int .i64 vA, .bool vW] 27)).cell? ⟨w2.heap.size, 0, none⟩ = some (.int .i64 vF) ∧ (w2.alloc (.cells #[.int .i64 vF, .int .i64 vA, .bool vW] 27)).cell? ⟨w2.heap.size, 1, none⟩ = some (.int .i64 vA) ∧ (w2.alloc (.cells #[.int .i64 vF, .int .i64 vA, .bool vW] 27)).cell? ⟨w2.heap.size, 2, none⟩ = some (.bool vW)) := ⟨cell_new _ _ _ 0 _ rfl, cell_new _ _ _ 1 _ rfl, cell_new _ _ _ 2 _ rfl⟩
      clear hal
      go_wp2_with fail
      have hg3 := World.grownBy_alloc w2 (.cells #[.int .i64 vF, .int .i64 vA, .bool vW] 27) none
      generalize w2.alloc (.cells #[.int .i64 vF, .int .i64 vA, .bool vW] 27) = w3 at *
      have HB3 := Lib.hid (below_none HB2.out (Nat.le_refl _) hg3)
      have HZ3 := Lib.hid hg3.size
      have HOM3 := Lib.hid (HOM2.out.gnone hg3)
      have HMM3 := Lib.hid (HMM2.out.gnone hg3 (by have := HZ1.out; have := HZ2.out; omega))
      clear hg3
      refine (specWalk_c w1.heap.size x1 c1 ls f t _ HMM3.out (by have := HZ1.out; have := HZ2.out; have := HZ3.out; omega) HS.out).mono ?_
      rintro e w4 ⟨rfl, hg4⟩
      rw [HV.out]
      unfold WalkV
      have HB4 := Lib.hid (below_none HB3.out (Nat.le_refl _) hg4)
      have HZ4 := Lib.hid hg4.size
      have HOM4 := Lib.hid (HOM3.out.gnone hg4)
      have HMM4 := Lib.hid (HMM3.out.gnone hg4 (by have := HZ1.out; have := HZ2.out; have := HZ3.out; omega))
      have HCA4 : Hid (w4.cell? ⟨w2.heap.size, 0, none⟩ = some (.int .i64 vF) ∧ w4.cell? ⟨w2.heap.size, 1, none⟩ = some (.int .i64 vA) ∧ w4.cell? ⟨w2.heap.size, 2, none⟩ = some (.bool vW)) := ⟨hg4.cell HCA3.out.1 (by simp), hg4.cell HCA3.out.2.1 (by simp), hg4.cell HCA3.out.2.2 (by simp)⟩
      clear hg4
      have hal := World.grownBy_alloc w4 (.cells #[.int .i64 vF, .int .i64 vA, .bool vW] 27) none
      have HCA5 : Hid ((w4.alloc (.cells #[.int .i64 vF, .int .i64 vA, .bool vW] 27)).cell? ⟨w2.heap.size, 0, none⟩ = some (.int .i64 vF) ∧ (w4.alloc (.cells #[.int .i64 vF, .int .i64 vA, .bool vW] 27)).cell? ⟨w2.heap.size, 1, none⟩ = some (.int .i64 vA) ∧ (w4.alloc (.cells #[.int .i64 vF, .int .i64 vA, .bool vW] 27)).cell? ⟨w2.heap.size, 2, none⟩ = some (.bool vW)) := ⟨hal.cell HCA4.out.1 (by simp), hal.cell HCA4.out.2.1 (by simp), hal.cell HCA4.out.2.2 (by simp)⟩
      have HCB5 : Hid ((w4.alloc (.cells #[.int .i64 vF, .int .i64 vA, .bool vW] 27)).cell? ⟨w4.heap.size, 0, none⟩ = some (.int .i64 vF) ∧ (w4.alloc (.cells #[.int .i64 vF, .int .i64 vA, .bool vW] 27)).cell? ⟨w4.heap.size, 1, none⟩ = some (.int .i64 vA) ∧ (w4.alloc (.cells #[.int .i64 vF, .int .i64 vA, .bool vW] 27)).cell? ⟨w4.heap.size, 2, none⟩ = some (.bool vW)) := ⟨cell_new _ _ _ 0 _ rfl, cell_new _ _ _ 1 _ rfl, cell_new _ _ _ 2 _ rfl⟩
      clear hal
      have a0 := HCA5.out.1
      have a1 := HCA5.out.2.1
      have a2 := HCA5.out.2.2
      have HMw := Lib.hid (HMM4.out.gnone (World.grownBy_alloc w4 (.cells #[.int .i64 vF, .int .i64 vA, .bool vW] 27) none) (by have := HZ1.out; have := HZ2.out; have := HZ3.out; have := HZ4.out; omega))
      have HBw := Lib.hid (below_none HB4.out (Nat.le_refl _) (World.grownBy_alloc w4 (.cells #[.int .i64 vF, .int .i64 vA, .bool vW] 27) none))
      go_wp2_with fail
      go_ret
      exact ⟨rfl, HBw.out⟩
    · obtain ⟨vF, hvF⟩ : ∃ vF : Int, vF = 0 := ⟨_, rfl⟩
      obtain ⟨vA, hvA⟩ : ∃ vA : Int, vA = 0 := ⟨_, rfl⟩
      obtain ⟨vW, hvW⟩ : ∃ vW : Bool, vW = false := ⟨_, rfl⟩
      have HV : Hid (WalkV (wkF ls f t) (wkA ls f t) (wkW ls f t) (wkN ls f t) = WalkV vF vA vW 2) := by show _ = _; rw [hF, hA, hW, hN, hvF, hvA, hvW]
      have HvF := Lib.hid hvF
      have HvA := Lib.hid hvA
      have HvW := Lib.hid hvW
      clear hF hA hW hN hvF hvA hvW
      have H1 := Lib.hid h1
      have H2 := Lib.hid h2
      have H3 := Lib.hid h3
      have HO := Lib.hid ho
      clear h1 h2 h3 ho
      have HO2 := Lib.hid ho2
      clear ho2
      refine (implWalk_c w1.heap.size x1 c1 ls f t _ HMM1.out (by have := HZ1.out; omega) HS.out).mono ?_
      rintro e w2 ⟨rfl, hg2⟩
      rw [HV.out]
      unfold WalkV
      have HB2 := Lib.hid (below_none HB1.out (Nat.le_refl _) hg2)
      have HZ2 := Lib.hid hg2.size
      have HOM2 := Lib.hid (HOM1.out.gnone hg2)
      have HMM2 := Lib.hid (HMM1.out.gnone hg2 (by have := HZ1.out; omega))
      clear hg2
      have hal := World.grownBy_alloc w2 (.cells #[.int .i64 vF, .int .i64 vA, .bool vW] 27) none
      have HCA3 : Hid ((w2.alloc (.cells #[.int .i64 vF, .int .i64 vA, .bool vW] 27)).cell? ⟨w2.heap.size, 0, none⟩ = some (.int .i64 vF) ∧ (w2.alloc (.cells #[.int .i64 vF, .int .i64 vA, .bool vW] 27)).cell? ⟨w2.heap.size, 1, none⟩ = some (.int .i64 vA) ∧ (w2.alloc (.cells #[.int .i64 vF, .int .i64 vA, .bool vW] 27)).cell? ⟨w2.heap.size, 2, none⟩ = some (.bool vW)) := ⟨cell_new _ _ _ 0 _ rfl, cell_new _ _ _ 1 _ rfl, cell_new _ _ _ 2 _ rfl⟩
      clear hal
      go_wp2_with fail
      have hg3 := World.grownBy_alloc w2 (.cells #[.int .i64 vF, .int .i64 vA, .bool vW] 27) none
      generalize w2.alloc (.cells #[.int .i64 vF, .int .i64 vA, .bool vW] 27) = w3 at *
      have HB3 := Lib.hid (below_none HB2.out (Nat.le_refl _) hg3)
      have HZ3 := Lib.hid hg3.size
      have HOM3 := Lib.hid (HOM2.out.gnone hg3)
      have HMM3 := Lib.hid (HMM2.out.gnone hg3 (by have := HZ1.out; have := HZ2.out; omega))
      clear hg3
      refine (specWalk_c w1.heap.size x1 c1 ls f t _ HMM3.out (by have := HZ1.out; have := HZ2.out; have := HZ3.out; omega) HS.out).mono ?_
      rintro e w4 ⟨rfl, hg4⟩
      rw [HV.out]
      unfold WalkV
      have HB4 := Lib.hid (below_none HB3.out (Nat.le_refl _) hg4)
      have HZ4 := Lib.hid hg4.size
      have HOM4 := Lib.hid (HOM3.out.gnone hg4)
      have HMM4 := Lib.hid (HMM3.out.gnone hg4 (by have := HZ1.out; have := HZ2.out; have := HZ3.out; omega))
      have HCA4 : Hid (w4.cell? ⟨w2.heap.size, 0, none⟩ = some (.int .i64 vF) ∧ w4.cell? ⟨w2.heap.size, 1, none⟩ = some (.int .i64 vA) ∧ w4.cell? ⟨w2.heap.size, 2, none⟩ = some (.bool vW)) := ⟨hg4.cell HCA3.out.1 (by simp), hg4.cell HCA3.out.2.1 (by simp), hg4.cell HCA3.out.2.2 (by simp)⟩
      clear hg4
      have hal := World.grownBy_alloc w4 (.cells #[.int .i64 vF, .int .i64 vA, .bool vW] 27) none
      have HCA5 : Hid ((w4.alloc (.cells #[.int .i64 vF, .int .i64 vA, .bool vW] 27)).cell? ⟨w2.heap.size, 0, none⟩ = some (.int .i64 vF) ∧ (w4.alloc (.cells #[.int .i64 vF, .int .i64 vA, .bool vW] 27)).cell? ⟨w2.heap.size, 1, none⟩ = some (.int .i64 vA) ∧ (w4.alloc (.cells #[.int .i64 vF, .int .i64 vA, .bool vW] 27)).cell? ⟨w2.heap.size, 2, none⟩ = some (.bool vW)) := ⟨hal.cell HCA4.out.1 (by simp), hal.cell HCA4.out.2.1 (by simp), hal.cell HCA4.out.2.2 (by simp)⟩
      have HCB5 : Hid ((w4.alloc (.cells #[.int .i64 vF, .int .i64 vA, .bool vW] 27)).cell? ⟨w4.heap.size, 0, none⟩ = some (.int .i64 vF) ∧ (w4.alloc (.cells #[.int .i64 vF, .int .i64 vA, .bool vW] 27)).cell? ⟨w4.heap.size, 1, none⟩ = some (.int .i64 vA) ∧ (w4.alloc (.cells #[.int .i64 vF, .int .i64 vA, .bool vW] 27)).cell? ⟨w4.heap.size, 2, none⟩ = some (.bool vW)) := ⟨cell_new _ _ _ 0 _ rfl, cell_new _ _ _ 1 _ rfl, cell_new _ _ _ 2 _ rfl⟩
      clear hal
      have a0 := HCA5.out.1
      have a1 := HCA5.out.2.1
      have a2 := HCA5.out.2.2
      have HMw := Lib.hid (HMM4.out.gnone (World.grownBy_alloc w4 (.cells #[.int .i64 vF, .int .i64 vA, .bool vW] 27) none) (by have := HZ1.out; have := HZ2.out; have := HZ3.out; have := HZ4.out; omega))
      have HBw := Lib.hid (below_none HB4.out (Nat.le_refl _) (World.grownBy_alloc w4 (.cells #[.int .i64 vF, .int .i64 vA, .bool vW] 27) none))
      go_wp2_with fail
      go_ret
      exact ⟨rfl, HBw.out⟩
    · obtain ⟨vF, hvF⟩ : ∃ vF : Int, vF = egF (wkY ls f t) := ⟨_, rfl⟩
      obtain ⟨vA, hvA⟩ : ∃ vA : Int, vA = acC t := ⟨_, rfl⟩
      obtain ⟨vW, hvW⟩ : ∃ vW : Bool, vW = (egW (wkX ls f t) && egW (wkY ls f t)) := ⟨_, rfl⟩
      have HV : Hid (WalkV (wkF ls f t) (wkA ls f t) (wkW ls f t) (wkN ls f t) = WalkV vF vA vW 0) := by show _ = _; rw [hF, hA, hW, hN, hvF, hvA, hvW]
      have HvF := Lib.hid hvF
      have HvA := Lib.hid hvA
      have HvW := Lib.hid hvW
      clear hF hA hW hN hvF hvA hvW
      have H1 := Lib.hid h1
      have H2 := Lib.hid h2
      have H3 := Lib.hid h3
      have HO := Lib.hid ho
      clear h1 h2 h3 ho
      have HO2 := Lib.hid ho2
      clear ho2
      refine (implWalk_c w1.heap.size x1 c1 ls f t _ HMM1.out (by have := HZ1.out; omega) HS.out).mono ?_
      rintro e w2 ⟨rfl, hg2⟩
      rw [HV.out]
      unfold WalkV
      have HB2 := Lib.hid (below_none HB1.out (Nat.le_refl _) hg2)
      have HZ2 := Lib.hid hg2.size
      have HOM2 := Lib.hid (HOM1.out.gnone hg2)
      have HMM2 := Lib.hid (HMM1.out.gnone hg2 (by have := HZ1.out; omega))
      clear hg2
      have hal := World.grownBy_alloc w2 (.cells #[.int .i64 vF, .int .i64 vA, .bool vW] 27) none
      have HCA3 : Hid ((w2.alloc (.cells #[.int .i64 vF, .int .i64 vA, .bool vW] 27)).cell? ⟨w2.heap.size, 0, none⟩ = some (.int .i64 vF) ∧ (w2.alloc (.cells #[.int .i64 vF, .int .i64 vA, .bool vW] 27)).cell? ⟨w2.heap.size, 1, none⟩ = some (.int .i64 vA) ∧ (w2.alloc (.cells #[.int .i64 vF, .int .i64 vA, .bool vW] 27)).cell? ⟨w2.heap.size, 2, none⟩ = some (.bool vW)) := ⟨cell_new _ _ _ 0 _ rfl, cell_new _ _ _ 1 _ rfl, cell_new _ _ _ 2 _ rfl⟩
      clear hal
      go_wp2_with fail
      have hg3 := World.grownBy_alloc w2 (.cells #[.int .i64 vF, .int .i64 vA, .bool vW] 27) none
      generalize w2.alloc (.cells #[.int .i64 vF, .int .i64 vA, .bool vW] 27) = w3 at *
      have HB3 := Lib.hid (below_none HB2.out (Nat.le_refl _) hg3)
      have HZ3 := Lib.hid hg3.size
      have HOM3 := Lib.hid (HOM2.out.gnone hg3)
      have HMM3 := Lib.hid (HMM2.out.gnone hg3 (by have := HZ1.out; have := HZ2.out; omega))
      clear hg3
      refine (specWalk_c w1.heap.size x1 c1 ls f t _ HMM3.out (by have := HZ1.out; have := HZ2.out; have := HZ3.out; omega) HS.out).mono ?_
      rintro e w4 ⟨rfl, hg4⟩
      rw [HV.out]
      unfold WalkV
      have HB4 := Lib.hid (below_none HB3.out (Nat.le_refl _) hg4)
      have HZ4 := Lib.hid hg4.size
      have HOM4 := Lib.hid (HOM3.out.gnone hg4)
      have HMM4 := Lib.hid (HMM3.out.gnone hg4 (by have := HZ1.out; have := HZ2.out; have := HZ3.out; omega))
      have HCA4 : Hid (w4.cell? ⟨w2.heap.size, 0, none⟩ = some (.int .i64 vF) ∧ w4.cell? ⟨w2.heap.size, 1, none⟩ = some (.int .i64 vA) ∧ w4.cell? ⟨w2.heap.size, 2, none⟩ = some (.bool vW)) := ⟨hg4.cell HCA3.out.1 (by simp), hg4.cell HCA3.out.2.1 (by simp), hg4.cell HCA3.out.2.2 (by simp)⟩
      clear hg4
      have hal := World.grownBy_alloc w4 (.cells #[.int .i64 vF, .int .i64 vA, .bool vW] 27) none
      have HCA5 : Hid ((w4.alloc (.cells #[.int .i64 vF, .int .i64 vA, .bool vW] 27)).cell? ⟨w2.heap.size, 0, none⟩ = some (.int .i64 vF) ∧ (w4.alloc (.cells #[.int .i64 vF, .int .i64 vA, .bool vW] 27)).cell? ⟨w2.heap.size, 1, none⟩ = some (.int .i64 vA) ∧ (w4.alloc (.cells #[.int .i64 vF, .int .i64 vA, .bool vW] 27)).cell? ⟨w2.heap.size, 2, none⟩ = some (.bool vW)) := ⟨hal.cell HCA4.out.1 (by simp), hal.cell HCA4.out.2.1 (by simp), hal.cell HCA4.out.2.2 (by simp)⟩
      have HCB5 : Hid ((w4.alloc (.cells #[.int .i64 vF, .int .i64 vA, .bool vW] 27)).cell? ⟨w4.heap.size, 0, none⟩ = some (.int .i64 vF) ∧ (w4.alloc (.cells #[.int .i64 vF, .int .i64 vA, .bool vW] 27)).cell? ⟨w4.heap.size, 1, none⟩ = some (.int .i64 vA) ∧ (w4.alloc (.cells #[.int .i64 vF, .int .i64 vA, .bool vW] 27)).cell? ⟨w4.heap.size, 2, none⟩ = some (.bool vW)) := ⟨cell_new _ _ _ 0 _ rfl, cell_new _ _ _ 1 _ rfl, cell_new _ _ _ 2 _ rfl⟩
      clear hal
      have a0 := HCA5.out.1
      have a1 := HCA5.out.2.1
      have a2 := HCA5.out.2.2
      have HMw := Lib.hid (HMM4.out.gnone (World.grownBy_alloc w4 (.cells #[.int .i64 vF, .int .i64 vA, .bool vW] 27) none) (by have := HZ1.out; have := HZ2.out; have := HZ3.out; have := HZ4.out; omega))
      have HBw := Lib.hid (below_none HB4.out (Nat.le_refl _) (World.grownBy_alloc w4 (.cells #[.int .i64 vF, .int .i64 vA, .bool vW] 27) none))
      have t0 := (inR_iff.1 H3.out).1
      have t1 := (inR_iff.1 H3.out).2
      have HD : Hid (wkD ls f t = true) := by
        have e1 := inR_iff.1 H3.out
        show _ = _
        unfold wkD wkB
        rw [H1.out, H2.out, H3.out, HO.out, HO2.out]; rfl
      have HV2 : Hid (∀ i : Int, 0 ≤ i → i ≤ 3 → WalkV (wkF ls f (t - t % 4 + i)) (wkA ls f (t - t % 4 + i)) (wkW ls f (t - t % 4 + i)) (wkN ls f (t - t % 4 + i)) = WalkV vF i vW 0) := by
        intro i i0 i1
        obtain ⟨e1, e2, e3, e4⟩ := wk_page HD.out i0 i1
        have h0 := HV.out
        unfold WalkV at h0
        simp only [Value.tuple.injEq, Array.mk.injEq, List.cons.injEq, Value.agg.injEq, Value.int.injEq, Value.bool.injEq, true_and, and_true] at h0
        rw [e1, e2, e3, e4, h0.1.1, h0.1.2.2]
      have HW : Hid (w4.grownBy (w4.alloc (.cells #[.int .i64 vF, .int .i64 vA, .bool vW] 27)) none) := World.grownBy_alloc _ _ _
      have HA0 : Hid ((w4.alloc (.cells #[.int .i64 vF, .int .i64 vA, .bool vW] 27)).cell? ⟨w2.heap.size, 0, none⟩ = some (.int .i64 vF) ∧ (w4.alloc (.cells #[.int .i64 vF, .int .i64 vA, .bool vW] 27)).cell? ⟨w2.heap.size, 2, none⟩ = some (.bool vW)) := ⟨a0, a2⟩
      have HSZ : Hid (w1.heap.size ≤ (w4.alloc (.cells #[.int .i64 vF, .int .i64 vA, .bool vW] 27)).heap.size) := by
        have hz : w1.heap.size ≤ w4.heap.size := by have := HZ1.out; have := HZ2.out; have := HZ3.out; have := HZ4.out; omega
        show _ ≤ _
        simp; omega
      clear H1 H2 H3 HO HO2 HvF HvA HvW HV HD
      go_wp2_with fail
      clear a0 a1 a2
      generalize hwq : w4.alloc (.cells #[.int .i64 vF, .int .i64 vA, .bool vW] 27) = wq at *
      clear hwq
      go_loopw [10] (fun i wr => ∃ k : Nat, k ≤ 4 ∧ i = .int .i64 k ∧ wq.grownBy wr none) (fun i _ => 4 - (intOf i).toNat)
      case atStart => exact ⟨0, by omega, rfl, grown_refl _ _⟩
      case round =>
        obtain ⟨k, hk, rfl, hg⟩ := hrel
        have HG := Lib.hid hg
        clear hg
        by_cases hlt : k < 4
        · have hlt' : (k : Int) < 4 := by omega
          go_wp2_with fail
          refine (implWalk_c w1.heap.size x1 c1 ls f (t - t % 4 + k) _ (HMw.out.gnone HG.out HSZ.out) (Nat.le_trans HSZ.out HG.out.size) HS.out).mono ?_
          rintro e w9 ⟨rfl, hg9⟩
          rw [HV2.out k (by omega) (by omega)]
          unfold WalkV
          have hgo := none_alloc (none_trans HG.out hg9) (.cells #[.int .i64 vF, .int .i64 k, .bool vW] 27)
          have k0 := hgo.cell HA0.out.1 (by simp)
          have k2 := hgo.cell HA0.out.2 (by simp)
          have HGo := Lib.hid hgo
          clear hgo hg9
          go_wp2_with fail
          go_roundw
          case rel => exact ⟨k + 1, by omega, by go_num, HGo.out⟩
          case measure => simp [intOf]; omega
        · go_wp2_with fail
          go_ret
          exact ⟨rfl, below_none HBw.out (Nat.le_refl _) HG.out⟩
end Go.Proofs.Ytbgiabhfgjnggaa
