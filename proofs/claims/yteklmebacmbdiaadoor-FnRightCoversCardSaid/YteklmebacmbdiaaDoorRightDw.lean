/-
  The drawing of rights, and plain laws on them. No conditions.
-/
import Derived.Test.YteklmebacmbdiaaDoorRight
namespace Go.Proofs.YteklmebacmbdiaaDoor
open Go.RowKit

theorem rv_more {s : ByteArray} : rvB (s ++ (⟨#[100]⟩ : ByteArray)) = false := by
  unfold rvB
  have : (s ++ (⟨#[100]⟩ : ByteArray)).data.toList.all okL = false := by
    rw [List.all_eq_false]
    refine ⟨100, ?_, by decide⟩
    rw [ByteArray.data_append]
    simp
  rw [this, Bool.and_false]
theorem rv_less {s : ByteArray} (h : rvB s = true) (k : Nat) : rvB (s.extract 0 k) = true := by
  unfold rvB at h ⊢
  rw [Bool.and_eq_true, decide_eq_true_eq] at h
  rw [Bool.and_eq_true, decide_eq_true_eq]
  refine ⟨by rw [ByteArray.size_extract]; omega, ?_⟩
  rw [ByteArray.data_extract, List.all_eq_true]
  intro x hx
  rw [List.all_eq_true] at h
  refine h.2 x ?_
  have : x ∈ (s.data.toList.take k) := by simpa [Array.toList_extract, List.extract] using hx
  exact List.mem_of_mem_take this
set_option maxHeartbeats 1000000 in
theorem of_c (br q b n : Nat) (w : World) (h : Rdr w br q) (hq : q ≤ 900000) (hn : 1 ≤ n) (hn2 : n ≤ 12) (hb : b ≠ br) (hc : ∀ i, i < n → ∃ s : ByteArray, w.cell? ⟨b, i, none⟩ = some (.string s) ∧ s.size ≤ 5) :
    Calls Tryd.prog 33 #[.pointer (some ⟨br, 0, none⟩), .slice (some ⟨b, 0, none⟩) n n] w fun e w' => ∃ s : ByteArray, s.size ≤ 5 ∧ e = .returned (.string s) ∧ w.grownBy w' (some br) ∧ Rdr w' br (q + 1) := by
  have H := Lib.hid h
  have HC := Lib.hid hc
  clear h hc
  go_enter Tryd.func33, Tryd.ntmps33
  go_wp2_with fail
  refine (pick_c br q n _ H.out (by omega) (by omega) (by omega)).mono ?_
  rintro e w1 ⟨m, m0, m1, rfl, hg1, hr1⟩
  obtain ⟨s, hcs, hs⟩ := HC.out m.toNat (by omega)
  have hcs1 := hg1.cell hcs (fun e => hb (Option.some.inj e))
  have HF : Hid (w.grownBy w1 (some br) ∧ Rdr w1 br (q + 1)) := ⟨hg1, hr1⟩
  clear hg1 hr1 hcs
  go_wp2_with fail
  go_ret
  exact ⟨s, hs, rfl, HF.out.1, HF.out.2⟩
set_option maxHeartbeats 1000000 in
theorem l91Right_c (br q : Nat) (w : World) (h : Rdr w br q) (hq : q ≤ 800000) :
    Calls Tryd.prog 22 #[.pointer (some ⟨br, 0, none⟩)] w fun e w' => ∃ s : ByteArray, s.size ≤ 5 ∧ e = .returned (.string s) ∧ w.grownBy w' (some br) ∧ Rdr w' br (q + 2) := by
  go_enter Tryd.func22, Tryd.ntmps22
  go_wp2_with fail
  refine (pick_c br q 16 _ h (by omega) (by omega) (by omega)).mono ?_
  rintro e w1 ⟨m, hm0, hm1, rfl, hg1, hr1⟩
  have hne : w1.heap.size ≠ br := by have := hr1.lt; omega
  by_cases hm : m = 0
  · subst hm
    go_wp2_with fail
    refine (of_c br (q + 1) w1.heap.size 4 _ (hr1.alloc _) (by omega) (by omega) (by omega) hne ?_).mono ?_
    · intro i hi
      have : i = 0 ∨ i = 1 ∨ i = 2 ∨ i = 3 := by omega
      rcases this with rfl | rfl | rfl | rfl <;> exact ⟨_, cell_new _ _ _ _ _ rfl, by decide⟩
    rintro e w2 ⟨s, hs, rfl, hg2, hr2⟩
    go_wp2
    go_ret
    exact ⟨s, hs, rfl, grown_trans (grown_alloc hg1 _) hg2, hr2⟩
  · have hm' : (m == 0) = false := by simpa using hm
    go_wp2_with fail
    refine (of_c br (q + 1) w1.heap.size 12 _ (hr1.alloc _) (by omega) (by omega) (by omega) hne ?_).mono ?_
    · intro i hi
      have : i = 0 ∨ i = 1 ∨ i = 2 ∨ i = 3 ∨ i = 4 ∨ i = 5 ∨ i = 6 ∨ i = 7 ∨ i = 8 ∨ i = 9 ∨ i = 10 ∨ i = 11 := by omega
      rcases this with rfl | rfl | rfl | rfl | rfl | rfl | rfl | rfl | rfl | rfl | rfl | rfl <;> exact ⟨_, cell_new _ _ _ _ _ rfl, by decide⟩
    rintro e w2 ⟨s, hs, rfl, hg2, hr2⟩
    go_wp2
    go_ret
    exact ⟨s, hs, rfl, grown_trans (grown_alloc hg1 _) hg2, hr2⟩
set_option maxHeartbeats 400000 in
theorem DrawRightValid_c (a : Option Addr) (len cap : Nat) (w : World) (hB : Bytes w w.heap.size a len) (hc : len ≤ cap) (hm : len ≤ maxLen) :
    Calls Tryd.prog 17 #[.slice a len cap] w fun e w' => ∃ s : ByteArray, s.size ≤ 5 ∧ e = .returned (.string s) ∧ Below w.heap.size w w' := by
  have HB := Lib.hid hB
  clear hB
  go_enter Tryd.func17, Tryd.ntmps17
  go_wp2_with fail
  refine (l6Open_c a len cap w HB.out hc hm).mono ?_
  rintro e w1 ⟨rfl, hg1, hr1⟩
  go_wp2_with fail
  refine (l91Right_c w.heap.size 0 _ hr1 (by omega)).mono ?_
  rintro e w2 ⟨s, hs, rfl, hg2, hr2⟩
  go_wp2
  go_ret
  exact ⟨s, hs, rfl, drawn_below hg1 hg2⟩
set_option maxHeartbeats 400000 in
theorem DrawRightCovers_c (a : Option Addr) (len cap : Nat) (w : World) (hB : Bytes w w.heap.size a len) (hc : len ≤ cap) (hm : len ≤ maxLen) :
    Calls Tryd.prog 18 #[.slice a len cap] w fun e w' => ∃ s t : ByteArray, s.size ≤ 5 ∧ t.size ≤ 5 ∧ e = .returned (.tuple #[.string s, .string t]) ∧ Below w.heap.size w w' := by
  have HB := Lib.hid hB
  clear hB
  go_enter Tryd.func18, Tryd.ntmps18
  go_wp2_with fail
  refine (l6Open_c a len cap w HB.out hc hm).mono ?_
  rintro e w1 ⟨rfl, hg1, hr1⟩
  go_wp2_with fail
  refine (l91Right_c w.heap.size 0 _ hr1 (by omega)).mono ?_
  rintro e w2 ⟨s, hs, rfl, hg2, hr2⟩
  go_wp2_with fail
  refine (l91Right_c w.heap.size _ _ hr2 (by omega)).mono ?_
  rintro e w3 ⟨t, ht, rfl, hg3, hr3⟩
  go_wp2
  go_ret2
  exact ⟨s, t, hs, ht, rfl, drawn_below hg1 (grown_trans hg2 hg3)⟩
end Go.Proofs.YteklmebacmbdiaaDoor
