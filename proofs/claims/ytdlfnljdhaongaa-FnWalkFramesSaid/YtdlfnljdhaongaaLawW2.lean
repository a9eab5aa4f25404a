/-
  The walks of the laws on the tables and frames of drawn memories: each returns true and writes nothing that was there. No conditions.
-/
import Derived.Test.YtdlfnljdhaongaaNamLw
namespace Go.Proofs.Ytdlfnljdhaongaa
open Go.RowKit

def anyP (row : List Int) (j : Nat) (y : Int) : Bool := (List.range j).any fun i => egO (row.getD i 0) && (egF (row.getD i 0) == y)
theorem anyP_succ (row : List Int) (j : Nat) (y : Int) : anyP row (j + 1) y = (anyP row j y || (egO (row.getD j 0) && (egF (row.getD j 0) == y))) := by
  unfold anyP
  rw [List.range_succ, List.any_append]
  simp
theorem anyP_all {ls : List (List Int)} {r : Int} (h : okB ls r = true) {y : Int} (hy : y ∈ wtL ls r) : anyP (ls.getD r.toNat []) 4 y = true := by
  obtain ⟨j, hj, h1, h2⟩ := (wt_mem h).1 hy
  unfold anyP
  rw [List.any_eq_true]
  refine ⟨j, List.mem_range.2 hj, ?_⟩
  have e : (ls.getD r.toNat []).getD j 0 = cellM ls r (j : Int) := rfl
  rw [e, h1, h2]
  simp
theorem wt_hasN {ls : List (List Int)} {r : Int} (h : okB ls r = true) (j : Nat) (hj : j < 4) (ho : egO ((ls.getD r.toNat []).getD j 0) = true) : hasN (wtL ls r) (egF ((ls.getD r.toNat []).getD j 0)) = true := by
  unfold hasN
  rw [decide_eq_true_eq]
  exact (wt_mem h).2 ⟨j, hj, ho, rfl⟩
theorem wf_hasN {ls : List (List Int)} {r a : Int} (h : okB ls r = true) (hn : wkN ls r a = 0) : hasN (wfL ls r) (wkF ls r a) = true := by
  unfold hasN
  rw [decide_eq_true_eq]
  exact wk_in h hn
set_option maxHeartbeats 4000000 in
theorem FnWalkTables_w (a : Option Addr) (len cap : Nat) (w : World) (hB : Bytes w w.heap.size a len) (hc : len ≤ cap) (hm : len ≤ maxLen) :
    Calls Try.prog 3 #[.slice a len cap] w fun e w' => e = .returned (.bool true) ∧ Below w.heap.size w w' := by
  have HBY := Lib.hid hB
  clear hB
  by_cases hlong : 1048576 < len
  · have hlong' : (1048576 : Int) < (len : Int) := by omega
    unfold maxLen at hm
    go_enter Try.func3, Try.ntmps3
    go_wp2_with fail
    go_ret
    exact ⟨rfl, Below.refl _ _⟩
  · have hlong' : ¬ (1048576 : Int) < (len : Int) := by omega
    go_enter Try.func3, Try.ntmps3
    go_wp2_with fail
    refine (DrawWalkTables_c a len cap w HBY.out hc hm).mono ?_
    rintro e w1 ⟨v1, ls, r, rfl, hd⟩
    have HS := Lib.hid hd.small
    obtain ⟨ho1, _, _, hb1⟩ := hd
    obtain ⟨x1, c1, rfl, _, _, hm1⟩ := ho1.mem
    have HM1 := Lib.hid hm1
    have HB1 := Lib.hid hb1
    clear ho1 hb1 hm1
    have HSL : Hid ((wtL ls r).length ≤ 12) := wt_len ls r
    have HSO := Lib.hid (wt_sorted ls r)
    go_wp2_with fail
    refine (implWalkTables_c w1.heap.size x1 c1 ls r _ HM1.out (Nat.le_refl _) HS.out).mono ?_
    rintro e w2 ⟨v2, rfl, ho2, hg2⟩
    obtain ⟨x2, c2, rfl, _, _, hi2⟩ := OwnI.intsB ho2 (fun g e => (OwnI.lt ho2 g e).2)
    have HM2 := Lib.hid (HM1.out.gnone hg2 (Nat.le_refl _))
    have HI2 := Lib.hid hi2
    have HG2 := Lib.hid hg2
    have hz2 := hg2.size
    clear ho2 hg2 hi2
    go_wp2_with fail
    refine (specWalkTables_c w1.heap.size x1 c1 ls r _ HM2.out hz2 HS.out).mono ?_
    rintro e w3 ⟨v3, rfl, ho3, hg3⟩
    obtain ⟨x3, c3, rfl, _, _, hi3⟩ := OwnI.intsB ho3 (fun g e => (OwnI.lt ho3 g e).2)
    have HM3 := Lib.hid (HM2.out.gnone hg3 hz2)
    have HI3 := Lib.hid (HI2.out.gnone hg3 (Nat.le_refl _))
    have HJ3 := Lib.hid hi3
    have HG3 := Lib.hid (none_trans HG2.out hg3)
    have hz3 := hg3.size
    clear ho3 hg3 hi3
    go_wp2_with fail
    have hsame := fun (W : World) (h1 : Ints W x2 (wtL ls r)) (h2 : Ints W x3 (wtL ls r)) => sameInts_c x2 x3 c2 c3 (wtL ls r) (wtL ls r) W h1 h2 (Nat.le_trans HSL.out (by omega)) (Nat.le_trans HSL.out (by omega))
    simp only [beq_self_eq_true] at hsame
    have HSA := Lib.hid hsame
    clear hsame
    refine (HSA.out _ HI3.out.ints HJ3.out.ints).mono ?_
    rintro e w4 ⟨rfl, q, hw4⟩
    have hg4 : w3.grownBy w4 none := by rw [hw4]; exact drewN_none _ _
    have HI4 : Hid (Ints w4 x2 (wtL ls r)) := HI3.out.ints.gnone hg4
    have HJ4 : Hid (Ints w4 x3 (wtL ls r)) := HJ3.out.ints.gnone hg4
    have HZ4 : Hid (w1.heap.size ≤ w4.heap.size) := Nat.le_trans hz2 (Nat.le_trans hz3 hg4.size)
    have HM4 : Hid (Mem w4 w1.heap.size x1 ls) := HM3.out.gnone hg4 (by have := HG3.out.size; omega)
    have HB4 := Lib.hid (below_none HB1.out (Nat.le_refl _) (none_trans HG3.out hg4))
    clear hw4 hg4 hz2 hz3 HI3 HJ3 HM3 HM2 HI2 HG2 HG3
    rcases hmv : mvB ls
    · go_wp2_with fail
      refine (specMemoryValid_c w1.heap.size x1 c1 ls _ HM4.out HS.out).mono ?_
      rintro e w' ⟨rfl, rfl⟩
      rw [hmv]
      go_wp2_with fail
      refine (HSA.out _ HI4.out HJ4.out).mono ?_
      rintro e w5 ⟨rfl, q5, hw5⟩
      have HB5 : Hid (Below w.heap.size w w5) := by rw [hw5]; exact below_drew HB4.out _
      clear hw5
      go_wp2_with fail
      go_ret
      exact ⟨rfl, HB5.out⟩
    · by_cases hr0 : r < 0
      · go_wp2_with fail
        refine (specMemoryValid_c w1.heap.size x1 c1 ls _ HM4.out HS.out).mono ?_
        rintro e w' ⟨rfl, rfl⟩
        rw [hmv]
        go_wp2_with fail
        refine (HSA.out _ HI4.out HJ4.out).mono ?_
        rintro e w5 ⟨rfl, q5, hw5⟩
        have HB5 : Hid (Below w.heap.size w w5) := by rw [hw5]; exact below_drew HB4.out _
        clear hw5
        go_wp2_with fail
        go_ret
        exact ⟨rfl, HB5.out⟩
      have hr0' : 0 ≤ r := by omega
      by_cases hr1 : 12 ≤ r
      · go_wp2_with fail
        refine (specMemoryValid_c w1.heap.size x1 c1 ls _ HM4.out HS.out).mono ?_
        rintro e w' ⟨rfl, rfl⟩
        rw [hmv]
        go_wp2_with fail
        refine (HSA.out _ HI4.out HJ4.out).mono ?_
        rintro e w5 ⟨rfl, q5, hw5⟩
        have HB5 : Hid (Below w.heap.size w w5) := by rw [hw5]; exact below_drew HB4.out _
        clear hw5
        go_wp2_with fail
        go_ret
        exact ⟨rfl, HB5.out⟩
      have hr1' : r < 12 := by omega
      have hOK : okB ls r = true := by unfold okB; rw [hmv]; exact inR_iff.2 ⟨by omega, by omega⟩
      obtain ⟨b, off, b', off', rc, rfl, hcr, hir, hl4, hwd⟩ := mv_row HM4.out hmv (f := r) (by omega) (by omega)
      have hlen := (mv_shape hmv).1
      have HOK := Lib.hid hOK
      have HIR := Lib.hid hir
      have HWD := Lib.hid hwd
      have HL4 := Lib.hid hl4
      have HLEN := Lib.hid hlen
      clear hOK hir hwd hl4 hlen
      go_wp2_with fail
      refine (specMemoryValid_c w1.heap.size _ c1 ls _ HM4.out HS.out).mono ?_
      rintro e w' ⟨rfl, rfl⟩
      rw [hmv]
      clear hmv
      rw [HLEN.out]
      go_wp2_with fail
      have HHN : Hid (∀ j, j < 4 → egO ((ls.getD r.toNat []).getD j 0) = true → hasN (wtL ls r) (egF ((ls.getD r.toNat []).getD j 0)) = true) := fun j hj ho => wt_hasN HOK.out j hj ho
      have HAN : Hid (∀ y, y ∈ wtL ls r → anyP (ls.getD r.toNat []) 4 y = true) := fun y hy => anyP_all HOK.out hy
      generalize hLL : wtL ls r = L at *
      clear hLL
      generalize ls.getD r.toNat [] = row at *
      go_loop [7] (fun i => ∃ k : Nat, k ≤ 4 ∧ i = .int .i64 k) (fun i => 4 - (intOf i).toNat)
      case atStart => exact ⟨0, by omega, rfl⟩
      case round =>
        obtain ⟨k, hk, rfl⟩ := hrel
        by_cases hlt : k < 4
        · rcases HIR.out with h0 | ⟨b2, off2, e2, hcc⟩
          · have := HL4.out; rw [h0] at this; cases this
          simp only [Option.some.injEq, Addr.mk.injEq, and_true] at e2
          obtain ⟨rfl, rfl⟩ := e2
          have hck := hcc k (by rw [HL4.out]; exact hlt)
          have hwk := HWD.out k (by rw [HL4.out]; exact hlt)
          have HH := Lib.hid (HHN.out k hlt)
          clear hcc
          have hlt' : (k : Int) < 4 := by omega
          generalize row.getD k 0 = y at *
          rcases he : egO y
          · go_wp2_with fail
            refine (implEntryGet_c y _ (by omega)).mono ?_
            rintro e w' ⟨rfl, rfl⟩
            rw [he]
            go_wp2_with fail
            go_round
            case rel => exact ⟨k + 1, by omega, by go_num⟩
            case measure => simp [intOf]; omega
          · have HH2 := Lib.hid (HH.out he)
            go_wp2_with fail
            refine (implEntryGet_c y _ (by omega)).mono ?_
            rintro e w' ⟨rfl, rfl⟩
            rw [he]
            go_wp2_with fail
            refine (hasInt_c x2 c2 L (egF y) _ HI4.out (Nat.le_trans HSL.out (by omega))).mono ?_
            rintro e w' ⟨rfl, rfl⟩
            rw [HH2.out]
            go_wp2_with fail
            go_round
            case rel => exact ⟨k + 1, by omega, by go_num⟩
            case measure => simp [intOf]; omega
        · go_wp2_with fail
          generalize hn : L.length = n at *
          have HNL := Lib.hid hn
          have hn12 : n ≤ 12 := HSL.out
          clear hn
          go_loop [11] (fun i => ∃ k : Nat, k ≤ n ∧ i = .int .i64 k) (fun i => n - (intOf i).toNat)
          case atStart => exact ⟨0, Nat.zero_le _, rfl⟩
          case round =>
            obtain ⟨m, hm', rfl⟩ := hrel
            by_cases hltm : m < n
            · rcases HI4.out with h0 | ⟨b3, off3, rfl, hcc3⟩
              · have := HNL.out; rw [h0] at this; simp at this; omega
              have hcm := hcc3 m (by rw [HNL.out]; exact hltm)
              have HAM := Lib.hid (HAN.out (L.getD m 0) (getD_in (by rw [HNL.out]; exact hltm)))
              have hltm' : (m : Int) < (n : Int) := by omega
              clear hcc3
              generalize L.getD m 0 = y at *
              go_wp2_with fail
              go_loop [12, 13] (fun s i => ∃ (j : Nat) (c : Bool), j ≤ 4 ∧ i = .int .i64 j ∧ s = .bool c ∧ Hid (c = anyP row j y)) (fun _ i => 4 - (intOf i).toNat)
              case atStart => exact ⟨0, false, by omega, rfl, rfl, rfl⟩
              case round =>
                obtain ⟨j, c, hj, rfl, rfl, HC⟩ := hrel
                by_cases hltj : j < 4
                · rcases HIR.out with h0 | ⟨b2, off2, e2, hcc⟩
                  · have := HL4.out; rw [h0] at this; cases this
                  simp only [Option.some.injEq, Addr.mk.injEq, and_true] at e2
                  obtain ⟨rfl, rfl⟩ := e2
                  have hck := hcc j (by rw [HL4.out]; exact hltj)
                  have hwk := HWD.out j (by rw [HL4.out]; exact hltj)
                  have HP := Lib.hid (anyP_succ row j y)
                  have hltj' : (j : Int) < 4 := by omega
                  clear hcc
                  generalize row.getD j 0 = z at *
                  cases c
                  · rcases he : egO z
                    · go_wp2_with fail
                      refine (implEntryGet_c z _ (by omega)).mono ?_
                      rintro e w' ⟨rfl, rfl⟩
                      rw [he]
                      go_wp2_with fail
                      go_round
                      case rel => exact ⟨j + 1, false, by omega, by go_num, rfl, by show _ = _; rw [HP.out, ← HC.out, he]; rfl⟩
                      case measure => simp [intOf]; omega
                    · go_wp2_with fail
                      refine (implEntryGet_c z _ (by omega)).mono ?_
                      rintro e w' ⟨rfl, rfl⟩
                      rw [he]
                      go_wp2_with fail
                      go_round
                      case rel => exact ⟨j + 1, _, by omega, by go_num, rfl, by show _ = _; rw [HP.out, ← HC.out, he]; rfl⟩
                      case measure => simp [intOf]; omega
                  · go_wp2_with fail
                    refine (implEntryGet_c z _ (by omega)).mono ?_
                    rintro e w' ⟨rfl, rfl⟩
                    go_wp2_with fail
                    go_round
                    case rel => exact ⟨j + 1, true, by omega, by go_num, rfl, by show _ = _; rw [HP.out, ← HC.out]; rfl⟩
                    case measure => simp [intOf]; omega
                · have : j = 4 := by omega
                  subst this
                  have hc1 := HC.out
                  rw [HAM.out] at hc1
                  subst hc1
                  go_wp2_with fail
                  go_round
                  case rel => exact ⟨m + 1, by omega, by go_num⟩
                  case measure => simp [intOf]; omega
            · go_wp2_with fail
              have hasc := ascends_c x2 c2 L _ HI4.out (by rw [HNL.out]; omega) HSO.out
              rw [HNL.out] at hasc
              refine hasc.mono ?_
              clear hasc
              rintro e w5 ⟨rfl, q5, hw5⟩
              have HB5 : Hid (Below w.heap.size w w5) := by rw [hw5]; exact below_drew HB4.out _
              clear hw5
              go_wp2_with fail
              go_ret
              exact ⟨rfl, HB5.out⟩
set_option maxHeartbeats 4000000 in
theorem FnWalkFrames_w (a : Option Addr) (len cap : Nat) (w : World) (hB : Bytes w w.heap.size a len) (hc : len ≤ cap) (hm : len ≤ maxLen) :
    Calls Try.prog 4 #[.slice a len cap] w fun e w' => e = .returned (.bool true) ∧ Below w.heap.size w w' := by
  have HBY := Lib.hid hB
  clear hB
  by_cases hlong : 1048576 < len
  · have hlong' : (1048576 : Int) < (len : Int) := by omega
    unfold maxLen at hm
    go_enter Try.func4, Try.ntmps4
    go_wp2_with fail
    go_ret
    exact ⟨rfl, Below.refl _ _⟩
  · have hlong' : ¬ (1048576 : Int) < (len : Int) := by omega
    go_enter Try.func4, Try.ntmps4
    go_wp2_with fail
    refine (DrawWalkFrames_c a len cap w HBY.out hc hm).mono ?_
    rintro e w1 ⟨v1, ls, r, rfl, hd⟩
    have HS := Lib.hid hd.small
    obtain ⟨ho1, _, _, hb1⟩ := hd
    obtain ⟨x1, c1, rfl, _, _, hm1⟩ := ho1.mem
    have HM1 := Lib.hid hm1
    have HB1 := Lib.hid hb1
    clear ho1 hb1 hm1
    have HSL : Hid ((wfL ls r).length ≤ 12) := wf_len ls r
    have HSO := Lib.hid (wf_sorted ls r)
    go_wp2_with fail
    refine (implWalkFrames_c w1.heap.size x1 c1 ls r _ HM1.out (Nat.le_refl _) HS.out).mono ?_
    rintro e w2 ⟨v2, rfl, ho2, hg2⟩
    obtain ⟨x2, c2, rfl, _, _, hi2⟩ := OwnI.intsB ho2 (fun g e => (OwnI.lt ho2 g e).2)
    have HM2 := Lib.hid (HM1.out.gnone hg2 (Nat.le_refl _))
    have HI2 := Lib.hid hi2
    have HG2 := Lib.hid hg2
    have hz2 := hg2.size
    clear ho2 hg2 hi2
    go_wp2_with fail
    refine (specWalkFrames_c w1.heap.size x1 c1 ls r _ HM2.out hz2 HS.out).mono ?_
    rintro e w3 ⟨v3, rfl, ho3, hg3⟩
    obtain ⟨x3, c3, rfl, _, _, hi3⟩ := OwnI.intsB ho3 (fun g e => (OwnI.lt ho3 g e).2)
    have HM3 := Lib.hid (HM2.out.gnone hg3 hz2)
    have HI3 := Lib.hid (HI2.out.gnone hg3 (Nat.le_refl _))
    have HJ3 := Lib.hid hi3
    have HG3 := Lib.hid (none_trans HG2.out hg3)
    have hz3 := hg3.size
    clear ho3 hg3 hi3
    go_wp2_with fail
    have hsame := fun (W : World) (h1 : Ints W x2 (wfL ls r)) (h2 : Ints W x3 (wfL ls r)) => sameInts_c x2 x3 c2 c3 (wfL ls r) (wfL ls r) W h1 h2 (Nat.le_trans HSL.out (by omega)) (Nat.le_trans HSL.out (by omega))
    simp only [beq_self_eq_true] at hsame
    have HSA := Lib.hid hsame
    clear hsame
    refine (HSA.out _ HI3.out.ints HJ3.out.ints).mono ?_
    rintro e w4 ⟨rfl, q, hw4⟩
    have hg4 : w3.grownBy w4 none := by rw [hw4]; exact drewN_none _ _
    have HI4 : Hid (Ints w4 x2 (wfL ls r)) := HI3.out.ints.gnone hg4
    have HJ4 : Hid (Ints w4 x3 (wfL ls r)) := HJ3.out.ints.gnone hg4
    have HZ4 : Hid (w1.heap.size ≤ w4.heap.size) := Nat.le_trans hz2 (Nat.le_trans hz3 hg4.size)
    have HM4 : Hid (Mem w4 w1.heap.size x1 ls) := HM3.out.gnone hg4 (by have := HG3.out.size; omega)
    have HB4 := Lib.hid (below_none HB1.out (Nat.le_refl _) (none_trans HG3.out hg4))
    clear hw4 hg4 hz2 hz3 HI3 HJ3 HM3 HM2 HI2 HG2 HG3
    rcases hmv : mvB ls
    · go_wp2_with fail
      refine (specMemoryValid_c w1.heap.size x1 c1 ls _ HM4.out HS.out).mono ?_
      rintro e w' ⟨rfl, rfl⟩
      rw [hmv]
      go_wp2_with fail
      refine (HSA.out _ HI4.out HJ4.out).mono ?_
      rintro e w5 ⟨rfl, q5, hw5⟩
      have HB5 : Hid (Below w.heap.size w w5) := by rw [hw5]; exact below_drew HB4.out _
      clear hw5
      go_wp2_with fail
      go_ret
      exact ⟨rfl, HB5.out⟩
    · by_cases hr0 : r < 0
      · go_wp2_with fail
        refine (specMemoryValid_c w1.heap.size x1 c1 ls _ HM4.out HS.out).mono ?_
        rintro e w' ⟨rfl, rfl⟩
        rw [hmv]
        go_wp2_with fail
        refine (HSA.out _ HI4.out HJ4.out).mono ?_
        rintro e w5 ⟨rfl, q5, hw5⟩
        have HB5 : Hid (Below w.heap.size w w5) := by rw [hw5]; exact below_drew HB4.out _
        clear hw5
        go_wp2_with fail
        go_ret
        exact ⟨rfl, HB5.out⟩
      have hr0' : 0 ≤ r := by omega
      by_cases hr1 : 12 ≤ r
      · go_wp2_with fail
        refine (specMemoryValid_c w1.heap.size x1 c1 ls _ HM4.out HS.out).mono ?_
        rintro e w' ⟨rfl, rfl⟩
        rw [hmv]
        go_wp2_with fail
        refine (HSA.out _ HI4.out HJ4.out).mono ?_
        rintro e w5 ⟨rfl, q5, hw5⟩
        have HB5 : Hid (Below w.heap.size w w5) := by rw [hw5]; exact below_drew HB4.out _
        clear hw5
        go_wp2_with fail
        go_ret
        exact ⟨rfl, HB5.out⟩
      have hr1' : r < 12 := by omega
      have hOK : okB ls r = true := by unfold okB; rw [hmv]; exact inR_iff.2 ⟨by omega, by omega⟩
      obtain ⟨b, off, b', off', rc, rfl, hcr, hir, hl4, hwd⟩ := mv_row HM4.out hmv (f := r) (by omega) (by omega)
      have hlen := (mv_shape hmv).1
      have HOK := Lib.hid hOK
      have HIR := Lib.hid hir
      have HWD := Lib.hid hwd
      have HL4 := Lib.hid hl4
      have HLEN := Lib.hid hlen
      clear hOK hir hwd hl4 hlen
      go_wp2_with fail
      refine (specMemoryValid_c w1.heap.size _ c1 ls _ HM4.out HS.out).mono ?_
      rintro e w' ⟨rfl, rfl⟩
      rw [hmv]
      clear hmv
      rw [HLEN.out]
      go_wp2_with fail
      have HHN : Hid (∀ k : Nat, wkN ls r k = 0 → hasN (wfL ls r) (wkF ls r k) = true) := fun k h => wf_hasN HOK.out h
      have HAN : Hid (∀ y, y ∈ wfL ls r → hasN (snL ls r 64) y = true) := fun y hy => snL_all HOK.out hy
      have HLT : Hid (OwnI (w4.alloc (.cells #[] 3)) w4.heap.size (.slice (some ⟨w4.heap.size, 0, none⟩) 0 0) (snL ls r 0)) := litI w4
      have HGT : Hid (w4.grownBy (w4.alloc (.cells #[] 3)) none) := World.grownBy_alloc _ _ _
      generalize hLL : wfL ls r = L at *
      clear hLL
      go_loopw [7, 8] (fun v i wr => ∃ k : Nat, k ≤ 64 ∧ i = .int .i64 k ∧ w4.grownBy wr none ∧ Hid (OwnI wr w4.heap.size v (snL ls r k))) (fun _ i _ => 64 - (intOf i).toNat)
      case atStart => exact ⟨0, by omega, rfl, HGT.out, HLT.out⟩
      case round =>
        obtain ⟨k, hk, rfl, hg, HO⟩ := hrel
        by_cases hlt : k < 64
        · have hlt' : (k : Int) < 64 := by omega
          have HG := Lib.hid hg
          have HSN := Lib.hid (snL_succ ls r k)
          have HSLN := Lib.hid (snL_len ls r k)
          have HHK := Lib.hid (HHN.out k)
          clear hg
          go_wp2_with fail
          have hwk := implWalk_c w1.heap.size (some ⟨b, off, none⟩) c1 ls r k wr (HM4.out.gnone HG.out HZ4.out) (Nat.le_trans HZ4.out HG.out.size) HS.out
          rw [HLEN.out] at hwk
          refine hwk.mono ?_
          clear hwk
          rintro e w9 ⟨rfl, hg9⟩
          unfold WalkV
          have hg10 := none_alloc (none_trans HG.out hg9) (.cells #[.int .i64 (wkF ls r k), .int .i64 (wkA ls r k), .bool (wkW ls r k)] 36)
          have HG10 := Lib.hid hg10
          have HO9 := Lib.hid (HO.out.keptN hg9)
          clear hg9 hg10
          generalize wkF ls r k = vF at *
          generalize wkA ls r k = vA at *
          generalize wkW ls r k = vW at *
          generalize wkN ls r k = vN at *
          by_cases hN : vN = 0
          · subst hN
            have HH := Lib.hid (HHK.out rfl)
            have HE : Hid (snL ls r (k + 1) = snL ls r k ++ [vF]) := by show _ = _; rw [HSN.out, if_pos rfl]
            clear HSN HHK
            go_wp2_with fail
            refine (hasInt_c x2 c2 L vF _ (HI4.out.gnone HG10.out) (Nat.le_trans HSL.out (by omega))).mono ?_
            rintro e w' ⟨hee, hww⟩
            subst hee
            subst hww
            rw [HH.out]
            have HO10 := Lib.hid (HO9.out.keptN (World.grownBy_alloc w9 (.cells #[.int .i64 vF, .int .i64 vA, .bool vW] 36) none))
            have hs10 : w4.heap.size ≤ w9.heap.size + 1 := by have := HG10.out.size; simpa using this
            go_wp2_with (at_builtin; refine wpList_appI rfl _ _ rfl w4.heap.size _ _ rfl (HO10.out.keptN (World.grownBy_alloc _ _ _)) (w9.heap.size + 1) 0 1 1 [vF] rfl rfl ?c0 ?c1 ?c2 ?_)
            case c0 => simp
            case c1 => have := HSLN.out; simp; omega
            case c2 => simp; omega
            intro v' w' ho hg hnn
            have HX : Hid (w4.grownBy w' none ∧ OwnI w' w4.heap.size v' (snL ls r (k + 1))) := ⟨none_own (none_alloc HG10.out _) hg (fun q e => (OwnI.lt HO9.out q e).1), by rw [HE.out]; exact ho⟩
            clear ho hg hnn
            go_wp2_with fail
            go_roundw
            case rel => exact ⟨k + 1, by omega, by go_num, HX.out.1, HX.out.2⟩
            case measure => simp [intOf]; omega
          · have hN' : (vN == 0) = false := by simpa using hN
            have HE : Hid (snL ls r (k + 1) = snL ls r k) := by show _ = _; rw [HSN.out, if_neg hN, List.append_nil]
            clear HSN HHK
            have HO10 := Lib.hid (HO9.out.keptN (World.grownBy_alloc w9 (.cells #[.int .i64 vF, .int .i64 vA, .bool vW] 36) none))
            go_wp2_with fail
            go_roundw
            case rel => exact ⟨k + 1, by omega, by go_num, HG10.out, by show OwnI _ _ _ _; rw [HE.out]; exact HO10.out⟩
            case measure => simp [intOf]; omega
        · have hk64 : k = 64 := by omega
          have ho7 := HO.out
          rw [hk64] at ho7
          clear hk64
          obtain ⟨x7, c7, rfl, hi7, _⟩ := ho7.val
          have HI7 := Lib.hid hi7
          have HG := Lib.hid hg
          have HL7 := Lib.hid (snL_len ls r 64)
          have HI5 : Hid (Ints wr x2 L) := HI4.out.gnone hg
          have HB6 := Lib.hid (below_none HB4.out (Nat.le_refl _) hg)
          clear hg hi7 HO ho7
          generalize snL ls r 64 = SN at *
          go_wp2_with fail
          generalize hn : L.length = n at *
          have HNL := Lib.hid hn
          have hn12 : n ≤ 12 := HSL.out
          clear hn
          go_loop [11] (fun i => ∃ k : Nat, k ≤ n ∧ i = .int .i64 k) (fun i => n - (intOf i).toNat)
          case atStart => exact ⟨0, Nat.zero_le _, rfl⟩
          case round =>
            obtain ⟨m, hm', rfl⟩ := hrel
            by_cases hltm : m < n
            · rcases HI5.out with h0 | ⟨b3, off3, rfl, hcc3⟩
              · have := HNL.out; rw [h0] at this; simp at this; omega
              have hcm := hcc3 m (by rw [HNL.out]; exact hltm)
              have HAM := Lib.hid (HAN.out (L.getD m 0) (getD_in (by rw [HNL.out]; exact hltm)))
              have hltm' : (m : Int) < (n : Int) := by omega
              clear hcc3
              generalize L.getD m 0 = y at *
              go_wp2_with fail
              refine (hasInt_c x7 c7 SN y _ HI7.out (by have := HL7.out; omega)).mono ?_
              rintro e w' ⟨rfl, rfl⟩
              rw [HAM.out]
              go_wp2_with fail
              go_round
              case rel => exact ⟨m + 1, by omega, by go_num⟩
              case measure => simp [intOf]; omega
            · go_wp2_with fail
              have hasc := ascends_c x2 c2 L _ HI5.out (by rw [HNL.out]; omega) HSO.out
              rw [HNL.out] at hasc
              refine hasc.mono ?_
              clear hasc
              rintro e w5 ⟨rfl, q5, hw5⟩
              have HB5 : Hid (Below w.heap.size w w5) := by rw [hw5]; exact below_drew HB6.out _
              clear hw5
              go_wp2_with fail
              go_ret
              exact ⟨rfl, HB5.out⟩
end Go.Proofs.Ytdlfnljdhaongaa
