/-
  The walks of the laws on entries and addresses: each returns true and writes nothing that was there. No conditions.
-/
import Derived.Test.YtpgjnmflegdgmaaRd
namespace Go.Proofs.Ytpgjnmflegdgmaa
open Go.RowKit

theorem epV_get (m : Int) (b : Bool) (h : inR m 0 11 = true) : egO (epV m b) = true ∧ egF (epV m b) = m ∧ egW (epV m b) = b ∧ 0 < epV m b ∧ epV m b ≤ 9999 := by
  have h0 := inR_iff.1 h
  have h1 : egO (epV m b) = true := by
    rw [egO_iff]; unfold epV; rw [h]; cases b <;> simp <;> omega
  refine ⟨h1, ?_, ?_, ?_, ?_⟩
  · unfold egF; rw [h1]; unfold epV; rw [h]; cases b <;> simp <;> omega
  · unfold egW; rw [h1]; unfold epV; rw [h]; cases b <;> simp <;> omega
  · unfold epV; rw [h]; cases b <;> simp <;> omega
  · unfold epV; rw [h]; cases b <;> simp <;> omega

set_option maxHeartbeats 400000 in
theorem FnEntryPut_w (a : Option Addr) (len cap : Nat) (w : World) (hB : Bytes w w.heap.size a len) (hc : len ≤ cap) (hm : len ≤ maxLen) :
    Calls Try.prog 16 #[.slice a len cap] w fun e w' => e = .returned (.bool true) ∧ Below w.heap.size w w' := by
  have HB := Lib.hid hB
  clear hB
  by_cases hl : (1048576 : Int) < (len : Int)
  · go_enter Try.func16, Try.ntmps16
    go_wp2_with fail
    go_ret
    exact ⟨rfl, Below.refl _ _⟩
  · go_enter Try.func16, Try.ntmps16
    go_wp2_with fail
    refine (DrawEntryPut_c a len cap w HB.out hc hm).mono ?_
    rintro e w1 ⟨m, b, hm0, hm1, rfl, hw1⟩
    go_wp2_with fail
    refine (implEntryPut_c m b _).mono ?_
    rintro e w2 ⟨rfl, rfl⟩
    go_wp2_with fail
    refine (specEntryPut_c m b _).mono ?_
    rintro e w2 ⟨rfl, rfl⟩
    rcases h : inR m 0 11
    · go_wp2_with fail
      go_ret
      exact ⟨rfl, hw1⟩
    · obtain ⟨h1, h2, h3, h4, h5⟩ := epV_get m b h
      go_wp2_with fail
      refine (implEntryGet_c _ _ (by omega)).mono ?_
      rintro e w2 ⟨rfl, rfl⟩
      go_wp2_with fail
      go_ret
      exact ⟨rfl, hw1⟩
set_option maxHeartbeats 400000 in
theorem FnEntryPutRange_w (a : Option Addr) (len cap : Nat) (w : World) (hB : Bytes w w.heap.size a len) (hc : len ≤ cap) (hm : len ≤ maxLen) :
    Calls Try.prog 13 #[.slice a len cap] w fun e w' => e = .returned (.bool true) ∧ Below w.heap.size w w' := by
  have HB := Lib.hid hB
  clear hB
  by_cases hl : (1048576 : Int) < (len : Int)
  · go_enter Try.func13, Try.ntmps13
    go_wp2_with fail
    go_ret
    exact ⟨rfl, Below.refl _ _⟩
  · go_enter Try.func13, Try.ntmps13
    go_wp2_with fail
    refine (DrawEntryPut_c a len cap w HB.out hc hm).mono ?_
    rintro e w1 ⟨m, b, hm0, hm1, rfl, hw1⟩
    go_wp2_with fail
    refine (implEntryPut_c m b _).mono ?_
    rintro e w2 ⟨rfl, rfl⟩
    go_wp2_with fail
    refine (specEntryPut_c m b _).mono ?_
    rintro e w2 ⟨rfl, rfl⟩
    by_cases h1 : 0 ≤ m
    · by_cases h2 : m ≤ 11
      · have h : inR m 0 11 = true := inR_iff.2 ⟨h1, h2⟩
        have h3 : decide (0 ≤ m) = true := by simpa using h1
        have h4 : decide (m < 12) = true := by simp; omega
        go_wp2_with fail
        go_ret
        exact ⟨rfl, hw1⟩
      · have h : inR m 0 11 = false := inR_no.2 (by omega)
        have h3 : decide (0 ≤ m) = true := by simpa using h1
        have h4 : decide (m < 12) = false := by simp; omega
        go_wp2_with fail
        go_ret
        exact ⟨rfl, hw1⟩
    · have h : inR m 0 11 = false := inR_no.2 (by omega)
      have h3 : decide (0 ≤ m) = false := by simpa using h1
      go_wp2_with fail
      go_ret
      exact ⟨rfl, hw1⟩
set_option maxHeartbeats 400000 in
theorem FnEntryWrite_w (a : Option Addr) (len cap : Nat) (w : World) (hB : Bytes w w.heap.size a len) (hc : len ≤ cap) (hm : len ≤ maxLen) :
    Calls Try.prog 14 #[.slice a len cap] w fun e w' => e = .returned (.bool true) ∧ Below w.heap.size w w' := by
  have HB := Lib.hid hB
  clear hB
  by_cases hl : (1048576 : Int) < (len : Int)
  · go_enter Try.func14, Try.ntmps14
    go_wp2_with fail
    go_ret
    exact ⟨rfl, Below.refl _ _⟩
  · go_enter Try.func14, Try.ntmps14
    go_wp2_with fail
    refine (DrawEntryPut_c a len cap w HB.out hc hm).mono ?_
    rintro e w1 ⟨m, b, hm0, hm1, rfl, hw1⟩
    go_wp2_with fail
    refine (implEntryPut_c m b _).mono ?_
    rintro e w2 ⟨rfl, rfl⟩
    go_wp2_with fail
    refine (specEntryPut_c m b _).mono ?_
    rintro e w2 ⟨rfl, rfl⟩
    rcases h : inR m 0 11
    · go_wp2_with fail
      go_ret
      exact ⟨rfl, hw1⟩
    · have hd : (epV m true == epV m false + 2) = true := by
        have := inR_iff.1 h
        simp [epV, h]; omega
      have hb1 : epV m false ≤ 9999 := (epV_get m false h).2.2.2.2
      have hb0 : 0 < epV m false := (epV_get m false h).2.2.2.1
      go_wp2_with fail
      refine (implEntryPut_c m true _).mono ?_
      rintro e w2 ⟨rfl, rfl⟩
      go_wp2_with fail
      refine (implEntryPut_c m false _).mono ?_
      rintro e w2 ⟨rfl, rfl⟩
      go_wp2_with fail
      go_ret
      exact ⟨rfl, hw1⟩
theorem egO_put (n : Int) (h : egO n = true) : epV (egF n) (egW n) = n ∧ inR (egF n) 0 11 = true := by
  have h1 := egO_iff.1 h
  have h2 : inR (egF n) 0 11 = true := by rw [inR_iff]; simp [egF, h]; omega
  refine ⟨?_, h2⟩
  unfold epV
  rw [h2]
  simp only [egW, egF, h, Bool.true_and, if_true]
  by_cases h4 : n % 4 = 3 <;> simp [h4] <;> omega
set_option maxHeartbeats 400000 in
theorem FnEntryGet_w (a : Option Addr) (len cap : Nat) (w : World) (hB : Bytes w w.heap.size a len) (hc : len ≤ cap) (hm : len ≤ maxLen) :
    Calls Try.prog 15 #[.slice a len cap] w fun e w' => e = .returned (.bool true) ∧ Below w.heap.size w w' := by
  have HB := Lib.hid hB
  clear hB
  by_cases hl : (1048576 : Int) < (len : Int)
  · go_enter Try.func15, Try.ntmps15
    go_wp2_with fail
    go_ret
    exact ⟨rfl, Below.refl _ _⟩
  · go_enter Try.func15, Try.ntmps15
    go_wp2_with fail
    refine (DrawEntryGet_c a len cap w HB.out hc hm).mono ?_
    rintro e w1 ⟨m, hm0, hm1, rfl, hw1⟩
    go_wp2_with fail
    refine (implEntryGet_c m _ (by omega)).mono ?_
    rintro e w2 ⟨rfl, rfl⟩
    go_wp2_with fail
    refine (specEntryGet_c m _ (by omega)).mono ?_
    rintro e w2 ⟨rfl, rfl⟩
    rcases h : egO m
    · go_wp2_with fail
      go_ret
      exact ⟨rfl, hw1⟩
    · obtain ⟨h1, h2⟩ := egO_put m h
      go_wp2_with fail
      refine (implEntryPut_c (egF m) (egW m) _).mono ?_
      rintro e w2 ⟨rfl, rfl⟩
      go_wp2_with fail
      go_ret
      exact ⟨rfl, hw1⟩
set_option maxHeartbeats 400000 in
theorem FnEntryKind_w (a : Option Addr) (len cap : Nat) (w : World) (hB : Bytes w w.heap.size a len) (hc : len ≤ cap) (hm : len ≤ maxLen) :
    Calls Try.prog 12 #[.slice a len cap] w fun e w' => e = .returned (.bool true) ∧ Below w.heap.size w w' := by
  have HB := Lib.hid hB
  clear hB
  by_cases hl : (1048576 : Int) < (len : Int)
  · go_enter Try.func12, Try.ntmps12
    go_wp2_with fail
    go_ret
    exact ⟨rfl, Below.refl _ _⟩
  · go_enter Try.func12, Try.ntmps12
    go_wp2_with fail
    refine (DrawEntryKind_c a len cap w HB.out hc hm).mono ?_
    rintro e w1 ⟨m, hm0, hm1, rfl, hw1⟩
    go_wp2_with fail
    refine (implEntryKind_c m _ (by omega)).mono ?_
    rintro e w2 ⟨rfl, rfl⟩
    go_wp2_with fail
    refine (specEntryKind_c m _ (by omega)).mono ?_
    rintro e w2 ⟨rfl, rfl⟩
    go_wp2_with fail
    refine (implEntryGet_c m _ (by omega)).mono ?_
    rintro e w2 ⟨rfl, rfl⟩
    rcases pKind m with rfl | ⟨h1, ho⟩ | ⟨h1, ho⟩
    · have e1 : ekV 0 = 0 := by decide
      have e2 : egO 0 = false := by decide
      go_wp2_with fail
      go_ret
      exact ⟨rfl, hw1⟩
    · have hb : (m == 0) = false := by simpa using h1
      have e1 : ekV m = 2 := by simp [ekV, h1, ho]
      go_wp2_with fail
      go_ret
      exact ⟨rfl, hw1⟩
    · have hb : (m == 0) = false := by simpa using h1
      have e1 : ekV m = 1 := by simp [ekV, h1, ho]
      go_wp2_with fail
      go_ret
      exact ⟨rfl, hw1⟩
theorem acA_yes (n : Int) (h : inR n 0 63 = true) : 0 ≤ acA n ∧ acA n < 4 ∧ 0 ≤ acB n ∧ acB n < 4 ∧ 0 ≤ acC n ∧ acC n < 4 ∧ 16 * acA n + 4 * acB n + acC n = n := by
  have h1 := inR_iff.1 h
  simp only [acA, acB, acC, acO, h, if_true]
  omega
theorem acA_no (n : Int) (h : inR n 0 63 = false) : acA n = 0 ∧ acB n = 0 ∧ acC n = 0 := by simp [acA, acB, acC, acO, h]
set_option maxHeartbeats 400000 in
theorem FnAddressCut_w (a : Option Addr) (len cap : Nat) (w : World) (hB : Bytes w w.heap.size a len) (hc : len ≤ cap) (hm : len ≤ maxLen) :
    Calls Try.prog 9 #[.slice a len cap] w fun e w' => e = .returned (.bool true) ∧ Below w.heap.size w w' := by
  have HB := Lib.hid hB
  clear hB
  by_cases hl : (1048576 : Int) < (len : Int)
  · go_enter Try.func9, Try.ntmps9
    go_wp2_with fail
    go_ret
    exact ⟨rfl, Below.refl _ _⟩
  · go_enter Try.func9, Try.ntmps9
    go_wp2_with fail
    refine (DrawAddressCut_c a len cap w HB.out hc hm).mono ?_
    rintro e w1 ⟨m, hm0, hm1, rfl, hw1⟩
    go_wp2_with fail
    refine (implAddressCut_c m _).mono ?_
    rintro e w2 ⟨rfl, rfl⟩
    go_wp2_with fail
    refine (specAddressCut_c m _).mono ?_
    rintro e w2 ⟨rfl, rfl⟩
    rcases h : inR m 0 63
    · go_wp2_with fail
      go_ret
      exact ⟨rfl, hw1⟩
    · obtain ⟨h1, h2, h3, h4, h5, h6, h7⟩ := acA_yes m h
      have h8 : (16 * acA m + 4 * acB m + acC m == m) = true := by simpa using h7
      clear h7
      go_wp2_with fail
      go_ret
      exact ⟨rfl, hw1⟩
set_option maxHeartbeats 400000 in
theorem FnAddressRange_w (a : Option Addr) (len cap : Nat) (w : World) (hB : Bytes w w.heap.size a len) (hc : len ≤ cap) (hm : len ≤ maxLen) :
    Calls Try.prog 10 #[.slice a len cap] w fun e w' => e = .returned (.bool true) ∧ Below w.heap.size w w' := by
  have HB := Lib.hid hB
  clear hB
  by_cases hl : (1048576 : Int) < (len : Int)
  · go_enter Try.func10, Try.ntmps10
    go_wp2_with fail
    go_ret
    exact ⟨rfl, Below.refl _ _⟩
  · go_enter Try.func10, Try.ntmps10
    go_wp2_with fail
    refine (DrawAddressCut_c a len cap w HB.out hc hm).mono ?_
    rintro e w1 ⟨m, hm0, hm1, rfl, hw1⟩
    go_wp2_with fail
    refine (implAddressCut_c m _).mono ?_
    rintro e w2 ⟨rfl, rfl⟩
    go_wp2_with fail
    refine (specAddressCut_c m _).mono ?_
    rintro e w2 ⟨rfl, rfl⟩
    by_cases h1 : 0 ≤ m
    · by_cases h2 : m ≤ 63
      · have h : inR m 0 63 = true := inR_iff.2 ⟨h1, h2⟩
        have h3 : decide (0 ≤ m) = true := by simpa using h1
        have h4 : decide (m < 64) = true := by simp; omega
        go_wp2_with fail
        go_ret
        exact ⟨rfl, hw1⟩
      · have h : inR m 0 63 = false := inR_no.2 (by omega)
        have h3 : decide (0 ≤ m) = true := by simpa using h1
        have h4 : decide (m < 64) = false := by simp; omega
        go_wp2_with fail
        go_ret
        exact ⟨rfl, hw1⟩
    · have h : inR m 0 63 = false := inR_no.2 (by omega)
      have h3 : decide (0 ≤ m) = false := by simpa using h1
      go_wp2_with fail
      go_ret
      exact ⟨rfl, hw1⟩
set_option maxHeartbeats 400000 in
theorem FnExactConstants_w (w : World) :
    Calls Try.prog 3 #[] w fun e w' => e = .returned (.bool true) ∧ Grown w w' := by
  go_enter Try.func3, Try.ntmps3
  go_wp2
  go_ret
  exact ⟨rfl, Grown.refl _⟩
theorem wf_le64 {n : Int} (h : (Lit.int .i64 n).wf = true) : n ≤ 9223372036854775807 := by
  exact (bounds_i64 h).2
set_option maxHeartbeats 400000 in
theorem FnExactEntryPut_w (f : Int) (b : Bool) (w : World) (_wn : (Lit.int .i64 f).wf = true) :
    Calls Try.prog 8 #[.int .i64 f, .bool b] w fun e w' => e = .returned (.bool true) ∧ Grown w w' := by
  go_enter Try.func8, Try.ntmps8
  go_wp2_with (first | (go_at_call 26; refine (implEntryPut_c _ _ _).mono ?_; rintro e w' ⟨rfl, rfl⟩) | (go_at_call 25; refine (specEntryPut_c _ _ _).mono ?_; rintro e w' ⟨rfl, rfl⟩))
  go_ret
  exact ⟨rfl, Grown.refl _⟩
set_option maxHeartbeats 400000 in
theorem FnExactEntryGet_w (n : Int) (w : World) (wn : (Lit.int .i64 n).wf = true) :
    Calls Try.prog 6 #[.int .i64 n] w fun e w' => e = .returned (.bool true) ∧ Grown w w' := by
  go_enter Try.func6, Try.ntmps6
  go_wp2_with (first | (go_at_call 22; refine (implEntryGet_c _ _ (wf_le64 wn)).mono ?_; rintro e w' ⟨rfl, rfl⟩) | (go_at_call 21; refine (specEntryGet_c _ _ (wf_le64 wn)).mono ?_; rintro e w' ⟨rfl, rfl⟩))
  go_ret
  exact ⟨rfl, Grown.refl _⟩
set_option maxHeartbeats 400000 in
theorem FnExactEntryKind_w (n : Int) (w : World) (wn : (Lit.int .i64 n).wf = true) :
    Calls Try.prog 7 #[.int .i64 n] w fun e w' => e = .returned (.bool true) ∧ Grown w w' := by
  go_enter Try.func7, Try.ntmps7
  go_wp2_with (first | (go_at_call 24; refine (implEntryKind_c _ _ (wf_le64 wn)).mono ?_; rintro e w' ⟨rfl, rfl⟩) | (go_at_call 23; refine (specEntryKind_c _ _ (wf_le64 wn)).mono ?_; rintro e w' ⟨rfl, rfl⟩))
  go_ret
  exact ⟨rfl, Grown.refl _⟩
set_option maxHeartbeats 400000 in
theorem FnExactAddressCut_w (n : Int) (w : World) (_wn : (Lit.int .i64 n).wf = true) :
    Calls Try.prog 5 #[.int .i64 n] w fun e w' => e = .returned (.bool true) ∧ Grown w w' := by
  go_enter Try.func5, Try.ntmps5
  go_wp2_with (first | (go_at_call 20; refine (implAddressCut_c _ _).mono ?_; rintro e w' ⟨rfl, rfl⟩) | (go_at_call 19; refine (specAddressCut_c _ _).mono ?_; rintro e w' ⟨rfl, rfl⟩))
  go_ret
  exact ⟨rfl, Grown.refl _⟩
set_option maxHeartbeats 400000 in
theorem FnExactAddressOf_w (p t : Int) (w : World) (_wp : (Lit.int .i64 p).wf = true) (_wt : (Lit.int .i64 t).wf = true) :
    Calls Try.prog 4 #[.int .i64 p, .int .i64 t] w fun e w' => e = .returned (.bool true) ∧ Grown w w' := by
  go_enter Try.func4, Try.ntmps4
  go_wp2_with (first | (go_at_call 18; refine (implAddressOf_c _ _ _).mono ?_; rintro e w' ⟨rfl, rfl⟩) | (go_at_call 17; refine (specAddressOf_c _ _ _).mono ?_; rintro e w' ⟨rfl, rfl⟩))
  go_ret
  exact ⟨rfl, Grown.refl _⟩
end Go.Proofs.Ytpgjnmflegdgmaa
