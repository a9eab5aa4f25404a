/-
  The walks of the laws on drawn rights: each returns true and writes nothing that was there. No conditions.
-/
import Derived.Test.YteklmebacmbdiaaDoorRightDw
namespace Go.Proofs.YteklmebacmbdiaaDoor
open Go.RowKit

theorem below_trans2 {w w1 w2 : World} (h : Below w.heap.size w w1) (hB : Below w1.heap.size w1 w2) : Below w.heap.size w w2 := h.trans (hB.mono h.size)
set_option maxHeartbeats 1000000 in
theorem FnRightPart_w (a : Option Addr) (len cap : Nat) (w : World) (hB : Bytes w w.heap.size a len) (hc : len ≤ cap) (hm : len ≤ maxLen) :
    Calls Tryd.prog 6 #[.slice a len cap] w fun e w' => e = .returned (.bool true) ∧ Below w.heap.size w w' := by
  have HBY := Lib.hid hB
  clear hB
  by_cases hlong : 1048576 < len
  · have hlong' : (1048576 : Int) < (len : Int) := by omega
    unfold maxLen at hm
    go_enter Tryd.func6, Tryd.ntmps6
    go_wp2_with fail
    go_ret
    exact ⟨rfl, Below.refl _ _⟩
  · have hlong' : ¬ (1048576 : Int) < (len : Int) := by omega
    go_enter Tryd.func6, Tryd.ntmps6
    go_wp2_with fail
    refine (DrawRightValid_c a len cap w HBY.out hc hm).mono ?_
    rintro e w1 ⟨s, hs, rfl, hb1⟩
    have HB1 := Lib.hid hb1
    clear hb1
    go_wp2_with fail
    refine (implRightValid_c s _ (by omega)).mono ?_
    rintro e w2 ⟨rfl, hb⟩
    have HB2 := Lib.hid (below_trans2 HB1.out hb)
    clear hb
    go_wp2_with fail
    refine (specRightValid_c s _ (by omega)).mono ?_
    rintro e w' ⟨rfl, rfl⟩
    rcases hv : rvB s
    · go_wp2_with fail
      go_ret
      exact ⟨rfl, HB2.out⟩
    · have HM := Lib.hid (rv_more (s := s))
      have HLS := Lib.hid (rv_less hv (s.size - 1))
      clear hv
      have hsz : (s ++ (⟨#[100]⟩ : ByteArray)).size ≤ 9223372036854775807 := by rw [ByteArray.size_append]; show s.size + 1 ≤ _; omega
      have HSZ := Lib.hid hsz
      clear hsz
      go_wp2_with fail
      refine (implRightValid_c (s ++ (⟨#[100]⟩ : ByteArray)) _ HSZ.out).mono ?_
      rintro e w3 ⟨rfl, hb⟩
      rw [HM.out]
      have HB3 := Lib.hid (below_trans2 HB2.out hb)
      clear hb
      by_cases h0 : s.size = 0
      · obtain rfl : s = (⟨#[]⟩ : ByteArray) := by
          obtain ⟨d⟩ := s
          have : d = #[] := Array.eq_empty_of_size_eq_zero h0
          rw [this]
        go_wp2_with fail
        go_ret
        exact ⟨rfl, HB3.out⟩
      · have hne : s.toList ≠ [] := by
          rw [ByteArray.toList_eq]
          intro e
          have : s.data.size = 0 := by rw [← Array.length_toList, e]; rfl
          exact h0 this
        have he1 : s.toList.isEmpty = false := by
          cases hx : s.toList with
          | nil => exact absurd hx hne
          | cons => rfl
        have hp : (1 : Int) ≤ (s.size : Int) := by omega
        go_wp2_with fail
        have hs2 : (s.extract 0 (s.size - 1)).size ≤ 9223372036854775807 := by rw [ByteArray.size_extract]; omega
        refine (implRightValid_c (s.extract 0 (s.size - 1)) _ hs2).mono ?_
        clear hs2
        rintro e w4 ⟨rfl, hb⟩
        rw [HLS.out]
        have HB4 := Lib.hid (below_trans2 HB3.out hb)
        clear hb
        go_wp2_with fail
        go_ret
        exact ⟨rfl, HB4.out⟩
set_option maxHeartbeats 1000000 in
theorem FnRightCovers_w (a : Option Addr) (len cap : Nat) (w : World) (hB : Bytes w w.heap.size a len) (hc : len ≤ cap) (hm : len ≤ maxLen) :
    Calls Tryd.prog 7 #[.slice a len cap] w fun e w' => e = .returned (.bool true) ∧ Below w.heap.size w w' := by
  have HBY := Lib.hid hB
  clear hB
  by_cases hlong : 1048576 < len
  · have hlong' : (1048576 : Int) < (len : Int) := by omega
    unfold maxLen at hm
    go_enter Tryd.func7, Tryd.ntmps7
    go_wp2_with fail
    go_ret
    exact ⟨rfl, Below.refl _ _⟩
  · have hlong' : ¬ (1048576 : Int) < (len : Int) := by omega
    go_enter Tryd.func7, Tryd.ntmps7
    go_wp2_with fail
    refine (DrawRightCovers_c a len cap w HBY.out hc hm).mono ?_
    rintro e w1 ⟨s, t, hs, ht, rfl, hb1⟩
    have HB1 := Lib.hid hb1
    clear hb1
    go_wp2_with fail
    refine (implRightCovers_c s t _ (by omega) (by omega)).mono ?_
    rintro e w2 ⟨rfl, hb⟩
    have HB2 := Lib.hid (below_trans2 HB1.out hb)
    clear hb
    go_wp2_with fail
    refine (specRightCovers_c s t _ (by omega) (by omega)).mono ?_
    rintro e w' ⟨rfl, rfl⟩
    have HR : Hid (rcB s t = (rvB s && (rvB t && covB s t))) := rfl
    rcases h1 : rvB s
    · have HZ : Hid (rcB s t = false) := by show _ = _; rw [HR.out, h1]; rfl
      rw [HZ.out]
      go_wp2_with fail
      refine (implRightValid_c s _ (by omega)).mono ?_
      rintro e w3 ⟨rfl, hb⟩
      rw [h1]
      clear h1
      have HB3 := Lib.hid (below_trans2 HB2.out hb)
      clear hb
      go_wp2_with fail
      go_ret
      exact ⟨rfl, HB3.out⟩
    · rcases h2 : rvB t
      · have HZ : Hid (rcB s t = false) := by show _ = _; rw [HR.out, h1, h2]; rfl
        rw [HZ.out]
        go_wp2_with fail
        refine (implRightValid_c s _ (by omega)).mono ?_
        rintro e w3 ⟨rfl, hb⟩
        rw [h1]
        clear h1
        have HB3 := Lib.hid (below_trans2 HB2.out hb)
        clear hb
        go_wp2_with fail
        refine (implRightValid_c t _ (by omega)).mono ?_
        rintro e w4 ⟨rfl, hb⟩
        rw [h2]
        clear h2
        have HB4 := Lib.hid (below_trans2 HB3.out hb)
        clear hb
        go_wp2_with fail
        go_ret
        exact ⟨rfl, HB4.out⟩
      · have HZ : Hid (rcB s t = covB s t) := by show _ = _; rw [HR.out, h1, h2]; rfl
        rw [HZ.out]
        have HCV : Hid (covB s t = (decide (s.size ≤ t.size) && (t.extract 0 s.size).toList == s.toList)) := rfl
        by_cases hle : s.size ≤ t.size
        · have HC2 : Hid (covB s t = ((t.extract 0 s.size).toList == s.toList)) := by show _ = _; rw [HCV.out, decide_eq_true hle]; rfl
          rw [HC2.out]
          have hle' : (s.size : Int) ≤ (t.size : Int) := by omega
          go_wp2_with fail
          refine (implRightValid_c s _ (by omega)).mono ?_
          rintro e w3 ⟨rfl, hb⟩
          rw [h1]
          clear h1
          have HB3 := Lib.hid (below_trans2 HB2.out hb)
          clear hb
          go_wp2_with fail
          refine (implRightValid_c t _ (by omega)).mono ?_
          rintro e w4 ⟨rfl, hb⟩
          rw [h2]
          clear h2
          have HB4 := Lib.hid (below_trans2 HB3.out hb)
          clear hb
          go_wp2_with fail
          have hmn : (min (s.size : Int) (t.size : Int)).toNat = s.size := by omega
          rw [hmn, beq_self_eq_true]
          go_ret
          exact ⟨rfl, HB4.out⟩
        · have HC2 : Hid (covB s t = false) := by show _ = _; rw [HCV.out, decide_eq_false hle]; rfl
          rw [HC2.out]
          have hle' : ¬ (s.size : Int) ≤ (t.size : Int) := by omega
          go_wp2_with fail
          refine (implRightValid_c s _ (by omega)).mono ?_
          rintro e w3 ⟨rfl, hb⟩
          rw [h1]
          clear h1
          have HB3 := Lib.hid (below_trans2 HB2.out hb)
          clear hb
          go_wp2_with fail
          refine (implRightValid_c t _ (by omega)).mono ?_
          rintro e w4 ⟨rfl, hb⟩
          rw [h2]
          clear h2
          have HB4 := Lib.hid (below_trans2 HB3.out hb)
          clear hb
          go_wp2_with fail
          go_ret
          exact ⟨rfl, HB4.out⟩
end Go.Proofs.YteklmebacmbdiaaDoor
