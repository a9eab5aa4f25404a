/-
  The walk of the law on addresses of pages: it returns true and writes nothing that was there. No conditions.
-/
import Derived.Test.YtpgjnmflegdgmaaDrawOf
namespace Go.Proofs.Ytpgjnmflegdgmaa
open Go.RowKit
theorem aoV_cut (p t : Int) (h : aoO p t = true) : inR (aoV p t) 0 63 = true ∧ acA (aoV p t) = p / 4 ∧ acB (aoV p t) = p % 4 ∧ acC (aoV p t) = t ∧ 0 ≤ p ∧ p ≤ 15 := by
  have h0 := h
  simp only [aoO, Bool.and_eq_true, inR_iff] at h0
  have h1 : aoV p t = 4 * p + t := by simp [aoV, h]
  have h2 : inR (4 * p + t) 0 63 = true := by rw [inR_iff]; omega
  rw [h1]
  refine ⟨h2, ?_⟩
  simp only [acA, acB, acC, acO, h2, if_true]
  omega
set_option maxHeartbeats 400000 in
theorem FnAddressOf_w (a : Option Addr) (len cap : Nat) (w : World) (hB : Bytes w w.heap.size a len) (hc : len ≤ cap) (hm : len ≤ maxLen) :
    Calls Try.prog 11 #[.slice a len cap] w fun e w' => e = .returned (.bool true) ∧ Below w.heap.size w w' := by
  have HB := Lib.hid hB
  clear hB
  by_cases hl : (1048576 : Int) < (len : Int)
  · go_enter Try.func11, Try.ntmps11
    go_wp2_with fail
    go_ret
    exact ⟨rfl, Below.refl _ _⟩
  · go_enter Try.func11, Try.ntmps11
    go_wp2_with fail
    refine (DrawAddressOf_c a len cap w HB.out hc hm).mono ?_
    rintro e w1 ⟨m, t, hm0, hm1, ht0, ht1, rfl, hw1⟩
    go_wp2_with fail
    refine (implAddressOf_c m t _).mono ?_
    rintro e w2 ⟨rfl, rfl⟩
    go_wp2_with fail
    refine (specAddressOf_c m t _).mono ?_
    rintro e w2 ⟨rfl, rfl⟩
    rcases h : aoO m t
    · go_wp2_with fail
      go_ret
      exact ⟨rfl, hw1⟩
    · obtain ⟨h1, h2, h3, h4, h5, h6⟩ := aoV_cut m t h
      go_wp2_with fail
      refine (implAddressCut_c (aoV m t) _).mono ?_
      rintro e w2 ⟨rfl, rfl⟩
      rw [h1, h2, h3, h4]
      go_wp2_with fail
      go_ret
      exact ⟨rfl, hw1⟩
end Go.Proofs.Ytpgjnmflegdgmaa
