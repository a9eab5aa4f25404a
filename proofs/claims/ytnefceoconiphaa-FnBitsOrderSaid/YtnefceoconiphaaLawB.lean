/-
  The walks of the laws on sets of frames: each returns true and writes nothing that was there. No conditions.
-/
import Derived.Test.YtnefceoconiphaaRd
import Derived.Test.YtnefceoconiphaaSetFns
namespace Go.Proofs.Ytnefceoconiphaa
open Go.RowKit

theorem mem_blp {n f : Int} : f ∈ blp n 12 ↔ bhV n f = true := by
  unfold blp
  rw [List.mem_map]
  constructor
  · rintro ⟨j, hj, rfl⟩
    exact (List.mem_filter.1 hj).2
  · intro h
    have h1 : inR f 0 11 = true := by
      unfold bhV at h
      rw [Bool.and_eq_true, Bool.and_eq_true] at h
      exact h.2.1
    have h2 := inR_iff.1 h1
    refine ⟨f.toNat, List.mem_filter.2 ⟨List.mem_range.2 (by omega), ?_⟩, by omega⟩
    rw [show ((f.toNat : Nat) : Int) = f from by omega]
    exact h
theorem hasN_blp (n f : Int) : hasN (blp n 12) f = bhV n f := by
  unfold hasN
  rw [Bool.eq_iff_iff, decide_eq_true_eq, mem_blp]
theorem blp_bl {n : Int} (h : inR n 0 4095 = true) : blp n 12 = (bl n.toNat).map fun j : Nat => (j : Int) := by
  unfold blp bl
  congr 1
  refine List.filter_congr fun j hj => ?_
  have := List.mem_range.1 hj
  rw [bhV_in h (by omega) (by omega)]
  rfl
theorem Ints_drewN {w : World} {a : Option Addr} {l : List Int} (h : Ints w a l) (q : Nat) : Ints (w.drewN q) a l := h
theorem bo_blp {n : Int} (h : inR n 0 4095 = true) : boV (blp n 12) = n ∧ boO (blp n 12) = true := by
  have b := inR_iff.1 h
  have e := bo_bl (n := n.toNat) (by omega)
  rw [blp_bl h]
  unfold boV boO
  rw [e]
  simp; omega
/-- Below behind a callee that made blocks alone. -/
theorem below_grown {w w1 w2 : World} (h : Below w.heap.size w w1) (hg : w1.grownBy w2 none) : Below w.heap.size w w2 :=
  h.trans ⟨hg.os, hg.tape, hg.output, hg.size, fun k hk => hg.block k (by have := h.size; omega) (fun e => by cases e)⟩
theorem below_drewN {w w1 : World} (h : Below w.heap.size w w1) (n : Nat) : Below w.heap.size w (w1.drewN n) := ⟨h.os, h.tape, h.output, h.size, h.block⟩

set_option maxHeartbeats 1000000 in
theorem FnBitsHas_w (a : Option Addr) (len cap : Nat) (w : World) (hB : Bytes w w.heap.size a len) (hc : len ≤ cap) (hm : len ≤ maxLen) :
    Calls Try.prog 9 #[.slice a len cap] w fun e w' => e = .returned (.bool true) ∧ Below w.heap.size w w' := by
  have HB := Lib.hid hB
  clear hB
  by_cases hl : (1048576 : Int) < (len : Int)
  · go_enter Try.func9, Try.ntmps9
    go_wp2_with fail
    go_ret
    exact ⟨rfl, Below.refl _ _⟩
  · go_enter Try.func9, Try.ntmps9
    go_wp2_with fail
    refine (DrawBitsHas_c a len cap w HB.out hc hm).mono ?_
    rintro e w1 ⟨n, f, hn0, hn1, hf0, hf1, rfl, hw1⟩
    go_wp2_with (first | (go_at_call 17; refine (implBitsHas_c _ _ _).mono ?_; rintro e w' ⟨rfl, rfl⟩) | (go_at_call 16; refine (specBitsHas_c _ _ _).mono ?_; rintro e w' ⟨rfl, rfl⟩))
    refine (implBitsList_c n _).mono ?_
    rintro e w2 ⟨v, rfl, hown, hg⟩
    obtain ⟨x, c, rfl, hI, _⟩ := hown.val
    have HI := Lib.hid hI
    have HW := Lib.hid (below_grown hw1 hg)
    have HN := Lib.hid (hasN_blp n f)
    have HL := Lib.hid (blp_le n 12)
    clear hI hw1 hg hown
    go_wp2_with fail
    refine (hasNumber_c x c (blp n 12) f _ HI.out (by have := HL.out; omega)).mono ?_
    rintro e w3 ⟨rfl, rfl⟩
    rw [HN.out]
    go_wp2_with fail
    go_ret
    exact ⟨by simp, HW.out⟩
theorem join_facts {a b : Int} (h1 : inR a 0 4095 = true) (h2 : inR b 0 4095 = true) : 0 ≤ bjV a b ∧ inR (bjV a b) 0 4095 = true ∧ (∀ k : Int, 0 ≤ k → k ≤ 11 → bhV (bjV a b) k = (bhV a k || bhV b k)) ∧ bjV b a = bjV a b ∧ bjV (bjV a b) b = bjV a b := by
  have b1 := inR_iff.1 h1
  have b2 := inR_iff.1 h2
  obtain ⟨x, rfl⟩ := Int.eq_ofNat_of_zero_le b1.1
  obtain ⟨y, rfl⟩ := Int.eq_ofNat_of_zero_le b2.1
  have hx : x < 4096 := by omega
  have hy : y < 4096 := by omega
  have e : bjV (x : Int) (y : Int) = ((x ||| y : Nat) : Int) := by simp [bjV, h1, h2]
  have hlt : x ||| y < 4096 := or_lt' hx hy
  have hin : inR (bjV (x : Int) (y : Int)) 0 4095 = true := by rw [e, inR_iff]; omega
  refine ⟨by rw [e]; omega, hin, fun k hk0 hk1 => ?_, ?_⟩
  · rw [bhV_in hin hk0 hk1, bhV_in h1 hk0 hk1, bhV_in h2 hk0 hk1, e]
    unfold hb
    rw [Int.toNat_natCast, Int.toNat_natCast, Int.toNat_natCast, Nat.testBit_or]
  · refine ⟨?_, ?_⟩
    · rw [e]; simp [bjV, h1, h2, Nat.or_comm]
    · rw [e] at hin ⊢
      simp only [bjV, hin, h2, Bool.and_self, if_true, Int.toNat_natCast]
      rw [Nat.or_assoc, Nat.or_self]

theorem join_neg {a b : Int} (h : inR a 0 4095 = false ∨ inR b 0 4095 = false) : bjV a b = -1 := by
  rcases h with h | h <;> simp [bjV, h]
theorem without_facts {a b : Int} (h1 : inR a 0 4095 = true) (h2 : inR b 0 4095 = true) : 0 ≤ bwV a b ∧ inR (bwV a b) 0 4095 = true ∧ (∀ k : Int, 0 ≤ k → k ≤ 11 → bhV (bwV a b) k = (bhV a k && !bhV b k)) ∧ bwV a a = 0 ∧ bjV (bwV a b) (bwV a (bwV a b)) = a ∧ bwV a b + bwV a (bwV a b) = a ∧ bwV (bwV a (bwV a b)) b = 0 := by
  have b1 := inR_iff.1 h1
  have b2 := inR_iff.1 h2
  obtain ⟨x, rfl⟩ := Int.eq_ofNat_of_zero_le b1.1
  obtain ⟨y, rfl⟩ := Int.eq_ofNat_of_zero_le b2.1
  have hx : x < 4096 := by omega
  have hy : y < 4096 := by omega
  have e : bwV (x : Int) (y : Int) = ((wo x y : Nat) : Int) := by simp [bwV, h1, h2]
  have hlt : wo x y < 4096 := wo_lt hx
  have hin : inR (bwV (x : Int) (y : Int)) 0 4095 = true := by rw [e, inR_iff]; omega
  refine ⟨by rw [e]; omega, hin, fun k hk0 hk1 => ?_, ?_⟩
  · rw [bhV_in hin hk0 hk1, bhV_in h1 hk0 hk1, bhV_in h2 hk0 hk1, e]
    unfold hb
    rw [Int.toNat_natCast, Int.toNat_natCast, Int.toNat_natCast, testBit_wo]
  · have hin' : inR ((wo x y : Nat) : Int) 0 4095 = true := by rw [← e]; exact hin
    have e2 : bwV (x : Int) ((wo x y : Nat) : Int) = ((wo x (wo x y) : Nat) : Int) := by simp [bwV, h1, hin']
    have hin2 : inR ((wo x (wo x y) : Nat) : Int) 0 4095 = true := by
      have := wo_lt (b := wo x y) hx
      rw [inR_iff]; omega
    have ha := wo_add (b := y) hx
    refine ⟨?_, ?_, ?_, ?_⟩
    · simp [bwV, h1, wo_self]
    · rw [e, e2]
      simp only [bjV, hin', hin2, Bool.and_self, if_true, Int.toNat_natCast]
      rw [wo_parts]
    · rw [e, e2]; omega
    · rw [e, e2]
      simp only [bwV, hin2, h2, Bool.and_self, if_true, Int.toNat_natCast]
      rw [wo_wo]; rfl

theorem without_neg {a b : Int} (h : inR a 0 4095 = false ∨ inR b 0 4095 = false) : bwV a b = -1 := by
  rcases h with h | h <;> simp [bwV, h]
set_option maxHeartbeats 1000000 in
theorem FnBitsJoin_w (a : Option Addr) (len cap : Nat) (w : World) (hB : Bytes w w.heap.size a len) (hc : len ≤ cap) (hm : len ≤ maxLen) :
    Calls Try.prog 8 #[.slice a len cap] w fun e w' => e = .returned (.bool true) ∧ Below w.heap.size w w' := by
  have HB := Lib.hid hB
  clear hB
  by_cases hl : (1048576 : Int) < (len : Int)
  · go_enter Try.func8, Try.ntmps8
    go_wp2_with fail
    go_ret
    exact ⟨rfl, Below.refl _ _⟩
  · go_enter Try.func8, Try.ntmps8
    go_wp2_with fail
    refine (DrawBitsJoin_c a len cap w HB.out hc hm).mono ?_
    rintro e w1 ⟨n, m, hn0, hn1, hm0, hm1, rfl, hw1⟩
    rcases two_in n m with h1 | ⟨h1, h2⟩ | ⟨h1, h2⟩
    · have hE := join_neg (a := n) (b := m) (.inl h1)
      go_wp2_with (first | (go_at_call 19; refine (implBitsJoin_c _ _ _).mono ?_; rintro e w' ⟨rfl, rfl⟩) | (go_at_call 18; refine (specBitsJoin_c _ _ _).mono ?_; rintro e w' ⟨rfl, rfl⟩))
      go_ret
      exact ⟨rfl, hw1⟩
    · have hE := join_neg (a := n) (b := m) (.inr h2)
      go_wp2_with (first | (go_at_call 19; refine (implBitsJoin_c _ _ _).mono ?_; rintro e w' ⟨rfl, rfl⟩) | (go_at_call 18; refine (specBitsJoin_c _ _ _).mono ?_; rintro e w' ⟨rfl, rfl⟩))
      go_ret
      exact ⟨rfl, hw1⟩
    · obtain ⟨f1, f2, f3, f4, f5⟩ := join_facts h1 h2
      have H3 := Lib.hid f3
      have H4 := Lib.hid f4
      have H5 := Lib.hid f5
      have HW := Lib.hid hw1
      clear f3 f4 f5 hw1 f2
      obtain ⟨o, ho⟩ : ∃ o, o = bjV n m := ⟨_, rfl⟩
      rw [← ho] at f1 H3 H4 H5
      have hlo : decide (o < 0) = false := by simp; omega
      have HO : Hid (bjV n m = o) := ho.symm
      clear ho
      go_wp2_with fail
      refine (implBitsJoin_c n m _).mono ?_
      rintro e w2 ⟨rfl, rfl⟩
      rw [HO.out]
      go_wp2_with fail
      refine (specBitsJoin_c n m _).mono ?_
      rintro e w2 ⟨rfl, rfl⟩
      rw [HO.out]
      go_wp2_with fail
      go_loop [7] (fun i => ∃ k : Nat, k ≤ 12 ∧ i = .int .i64 k) (fun i => 12 - (intOf i).toNat)
      case atStart => exact ⟨0, by omega, rfl⟩
      case round =>
        obtain ⟨k, hk, rfl⟩ := hrel
        by_cases hlt : k < 12
        · have hlt' : (k : Int) < 12 := by omega
          have hx := H3.out k (by omega) (by omega)
          rcases hA : bhV n k <;> rcases hC : bhV m k
          all_goals
            rw [hA, hC] at hx
            simp at hx
            go_wp2_with (go_at_call 17; refine (implBitsHas_c _ _ _).mono ?_; rintro e w' ⟨rfl, rfl⟩)
            go_round
            case rel => exact ⟨k + 1, by omega, by go_num⟩
            case measure => simp [intOf]; omega
        · have : k = 12 := by omega
          subst this
          have h4 := H4.out
          have h5 := H5.out
          go_wp2_with (go_at_call 19; refine (implBitsJoin_c _ _ _).mono ?_; rintro e w' ⟨rfl, rfl⟩)
          go_ret
          exact ⟨rfl, HW.out⟩
set_option maxHeartbeats 1000000 in
theorem FnBitsWithout_w (a : Option Addr) (len cap : Nat) (w : World) (hB : Bytes w w.heap.size a len) (hc : len ≤ cap) (hm : len ≤ maxLen) :
    Calls Try.prog 10 #[.slice a len cap] w fun e w' => e = .returned (.bool true) ∧ Below w.heap.size w w' := by
  have HB := Lib.hid hB
  clear hB
  by_cases hl : (1048576 : Int) < (len : Int)
  · go_enter Try.func10, Try.ntmps10
    go_wp2_with fail
    go_ret
    exact ⟨rfl, Below.refl _ _⟩
  · go_enter Try.func10, Try.ntmps10
    go_wp2_with fail
    refine (DrawBitsWithout_c a len cap w HB.out hc hm).mono ?_
    rintro e w1 ⟨n, m, hn0, hn1, hm0, hm1, rfl, hw1⟩
    rcases two_in n m with h1 | ⟨h1, h2⟩ | ⟨h1, h2⟩
    · have hE := without_neg (a := n) (b := m) (.inl h1)
      go_wp2_with (first | (go_at_call 21; refine (implBitsWithout_c _ _ _).mono ?_; rintro e w' ⟨rfl, rfl⟩) | (go_at_call 20; refine (specBitsWithout_c _ _ _).mono ?_; rintro e w' ⟨rfl, rfl⟩))
      go_ret
      exact ⟨rfl, hw1⟩
    · have hE := without_neg (a := n) (b := m) (.inr h2)
      go_wp2_with (first | (go_at_call 21; refine (implBitsWithout_c _ _ _).mono ?_; rintro e w' ⟨rfl, rfl⟩) | (go_at_call 20; refine (specBitsWithout_c _ _ _).mono ?_; rintro e w' ⟨rfl, rfl⟩))
      go_ret
      exact ⟨rfl, hw1⟩
    · obtain ⟨f1, f2, f3, f4, f5, f6, f7⟩ := without_facts h1 h2
      have H3 := Lib.hid f3
      have H4 := Lib.hid f4
      have HW := Lib.hid hw1
      clear f3 f4 f5 f6 f7 hw1 f2
      obtain ⟨o, ho⟩ : ∃ o, o = bwV n m := ⟨_, rfl⟩
      rw [← ho] at f1 H3
      have hlo : decide (o < 0) = false := by simp; omega
      have HO : Hid (bwV n m = o) := ho.symm
      clear ho
      go_wp2_with fail
      refine (implBitsWithout_c n m _).mono ?_
      rintro e w2 ⟨rfl, rfl⟩
      rw [HO.out]
      go_wp2_with fail
      refine (specBitsWithout_c n m _).mono ?_
      rintro e w2 ⟨rfl, rfl⟩
      rw [HO.out]
      go_wp2_with fail
      go_loop [7] (fun i => ∃ k : Nat, k ≤ 12 ∧ i = .int .i64 k) (fun i => 12 - (intOf i).toNat)
      case atStart => exact ⟨0, by omega, rfl⟩
      case round =>
        obtain ⟨k, hk, rfl⟩ := hrel
        by_cases hlt : k < 12
        · have hlt' : (k : Int) < 12 := by omega
          have hx := H3.out k (by omega) (by omega)
          rcases hA : bhV n k <;> rcases hC : bhV m k
          all_goals
            rw [hA, hC] at hx
            simp at hx
            go_wp2_with (go_at_call 17; refine (implBitsHas_c _ _ _).mono ?_; rintro e w' ⟨rfl, rfl⟩)
            go_round
            case rel => exact ⟨k + 1, by omega, by go_num⟩
            case measure => simp [intOf]; omega
        · have : k = 12 := by omega
          subst this
          have h4 := H4.out
          go_wp2_with (go_at_call 21; refine (implBitsWithout_c _ _ _).mono ?_; rintro e w' ⟨rfl, rfl⟩)
          go_ret
          exact ⟨rfl, HW.out⟩
set_option maxHeartbeats 1000000 in
theorem FnBitsParts_w (a : Option Addr) (len cap : Nat) (w : World) (hB : Bytes w w.heap.size a len) (hc : len ≤ cap) (hm : len ≤ maxLen) :
    Calls Try.prog 11 #[.slice a len cap] w fun e w' => e = .returned (.bool true) ∧ Below w.heap.size w w' := by
  have HB := Lib.hid hB
  clear hB
  by_cases hl : (1048576 : Int) < (len : Int)
  · go_enter Try.func11, Try.ntmps11
    go_wp2_with fail
    go_ret
    exact ⟨rfl, Below.refl _ _⟩
  · go_enter Try.func11, Try.ntmps11
    go_wp2_with fail
    refine (DrawBitsWithout_c a len cap w HB.out hc hm).mono ?_
    rintro e w1 ⟨n, m, hn0, hn1, hm0, hm1, rfl, hw1⟩
    rcases two_in n m with h1 | ⟨h1, h2⟩ | ⟨h1, h2⟩
    · have hE := without_neg (a := n) (b := m) (.inl h1)
      go_wp2_with (first | (go_at_call 21; refine (implBitsWithout_c _ _ _).mono ?_; rintro e w' ⟨rfl, rfl⟩) | (go_at_call 20; refine (specBitsWithout_c _ _ _).mono ?_; rintro e w' ⟨rfl, rfl⟩))
      go_ret
      exact ⟨rfl, hw1⟩
    · have hE := without_neg (a := n) (b := m) (.inr h2)
      go_wp2_with (first | (go_at_call 21; refine (implBitsWithout_c _ _ _).mono ?_; rintro e w' ⟨rfl, rfl⟩) | (go_at_call 20; refine (specBitsWithout_c _ _ _).mono ?_; rintro e w' ⟨rfl, rfl⟩))
      go_ret
      exact ⟨rfl, hw1⟩
    · obtain ⟨f1, f2, f3, f4, f5, f6, f7⟩ := without_facts h1 h2
      have hlo : decide (bwV n m < 0) = false := by simp; omega
      have HW := Lib.hid hw1
      have H5 := Lib.hid f5
      have H6 := Lib.hid f6
      have H7 := Lib.hid f7
      have g1 := (inR_iff.1 f2).2
      have g3 := (inR_iff.1 h1).1
      have g4 := (inR_iff.1 h1).2
      clear f2 f3 f4 f5 f6 f7 hw1
      obtain ⟨o, ho⟩ : ∃ o, o = bwV n m := ⟨_, rfl⟩
      rw [← ho] at f1 H5 H6 H7 hlo g1
      have HO : Hid (bwV n m = o) := ho.symm
      clear ho
      go_wp2_with fail
      refine (implBitsWithout_c n m _).mono ?_
      rintro e w2 ⟨rfl, rfl⟩
      rw [HO.out]
      go_wp2_with fail
      refine (specBitsWithout_c n m _).mono ?_
      rintro e w2 ⟨rfl, rfl⟩
      rw [HO.out]
      go_wp2_with fail
      refine (implBitsWithout_c n o _).mono ?_
      rintro e w2 ⟨rfl, rfl⟩
      obtain ⟨x, hx⟩ : ∃ x, x = bwV n o := ⟨_, rfl⟩
      rw [← hx] at H5 H6 H7 ⊢
      have h5 := H5.out
      have h6 : (o + x == n) = true := by simpa using H6.out
      have h7 := H7.out
      have h8 : x = n - o := by have := H6.out; omega
      have g5 : x ≤ 9999 := by omega
      have g6 : -9999 ≤ x := by omega
      clear h8 hx
      go_wp2_with (first | (go_at_call 21; refine (implBitsWithout_c _ _ _).mono ?_; rintro e w' ⟨rfl, rfl⟩) | (go_at_call 19; refine (implBitsJoin_c _ _ _).mono ?_; rintro e w' ⟨rfl, rfl⟩))
      go_ret
      exact ⟨rfl, HW.out⟩
set_option maxHeartbeats 1000000 in
theorem FnBitsList_w (a : Option Addr) (len cap : Nat) (w : World) (hB : Bytes w w.heap.size a len) (hc : len ≤ cap) (hm : len ≤ maxLen) :
    Calls Try.prog 13 #[.slice a len cap] w fun e w' => e = .returned (.bool true) ∧ Below w.heap.size w w' := by
  have HB := Lib.hid hB
  clear hB
  by_cases hl : (1048576 : Int) < (len : Int)
  · go_enter Try.func13, Try.ntmps13
    go_wp2_with fail
    go_ret
    exact ⟨rfl, Below.refl _ _⟩
  · go_enter Try.func13, Try.ntmps13
    go_wp2_with fail
    refine (DrawBitsList_c a len cap w HB.out hc hm).mono ?_
    rintro e w1 ⟨n, hn0, hn1, rfl, hw1⟩
    go_wp2_with fail
    refine (implBitsList_c n _).mono ?_
    rintro e w2 ⟨v, rfl, hown, hg⟩
    go_wp2_with fail
    refine (specBitsList_c n _).mono ?_
    rintro e w3 ⟨v', rfl, hown', hg'⟩
    have hown2 := hown.keptN hg'
    obtain ⟨x, c, rfl, hI, _⟩ := hown2.val
    obtain ⟨x', c', rfl, hI', _⟩ := hown'.val
    have HI := Lib.hid hI
    have HI' := Lib.hid hI'
    have HW := Lib.hid (below_grown (below_grown hw1 hg) hg')
    have HL := Lib.hid (blp_le n 12)
    clear hI hI' hw1 hg hg' hown hown' hown2
    go_wp2_with fail
    refine (sameInts_c x x' c c' (blp n 12) (blp n 12) _ HI.out HI'.out (by have := HL.out; omega) (by have := HL.out; omega)).mono ?_
    rintro e w4 ⟨rfl, q, rfl⟩
    rw [beq_self_eq_true]
    rcases h : inR n 0 4095
    · by_cases h0 : n < 0
      · go_wp2_with fail
        refine (sameInts_c x x' c c' (blp n 12) (blp n 12) _ (Ints_drewN HI.out q) (Ints_drewN HI'.out q) (by have := HL.out; omega) (by have := HL.out; omega)).mono ?_
        rintro e w5 ⟨rfl, r, rfl⟩
        rw [beq_self_eq_true]
        go_wp2_with fail
        go_ret
        exact ⟨rfl, below_drewN HW.out (q + r)⟩
      · have h1 : 4095 < n := by have := inR_no.1 h; omega
        go_wp2_with fail
        refine (sameInts_c x x' c c' (blp n 12) (blp n 12) _ (Ints_drewN HI.out q) (Ints_drewN HI'.out q) (by have := HL.out; omega) (by have := HL.out; omega)).mono ?_
        rintro e w5 ⟨rfl, r, rfl⟩
        rw [beq_self_eq_true]
        go_wp2_with fail
        go_ret
        exact ⟨rfl, below_drewN HW.out (q + r)⟩
    · have h1 := (inR_iff.1 h).1
      have h2 := (inR_iff.1 h).2
      have HE : Hid (boV (blp n 12) = n ∧ boO (blp n 12) = true) := bo_blp h
      go_wp2_with fail
      refine (implBitsOf_c x c (blp n 12) _ (Ints_drewN HI.out q) (by have := HL.out; omega)).mono ?_
      rintro e w5 ⟨rfl, rfl⟩
      rw [HE.out.1, HE.out.2]
      go_wp2_with fail
      go_ret
      exact ⟨by simp, below_drewN HW.out q⟩
theorem blp_zero : blp 0 12 = [] := by
  unfold blp
  have h : ∀ j : Nat, bhV 0 (j : Int) = false := by
    intro j
    unfold bhV hb
    simp
  simp [h]
theorem blp_nil {n : Int} (h : ¬ (0 < n ∧ n ≤ 4095)) : blp n 12 = [] := by
  rcases e : inR n 0 4095
  · exact blp_out e 12
  · have := inR_iff.1 e
    have : n = 0 := by omega
    subst this
    exact blp_zero
theorem Ints.kept {w w' : World} {a : Option Addr} {l : List Int} (h : Ints w a l) (hg : w.grownBy w' none) : Ints w' a l := by
  rcases h with h | ⟨b, off, ha, hc⟩
  · exact .inl h
  · exact .inr ⟨b, off, ha, fun i hi => hg.cell (hc i hi) (by simp)⟩
/-- What the form tells of a slice of numbers that came in. -/
theorem ints_of {w : World} {a : Option Addr} {len cap : Nat} {zs : List Int} (h : (a = none ∧ len = 0 ∧ cap = 0 ∧ zs = []) ∨ ∃ x, a = some x ∧ len ≤ cap ∧ cap ≤ maxLen ∧ zs.length = cap ∧ (∀ i, i < zs.length → w.cell? (x.add i) = some (.int .i64 (zs.getD i 0))) ∧ ∀ n ∈ zs, (Lit.int .i64 n).wf = true) :
    ∃ l : List Int, len = l.length ∧ Ints w a l ∧ len ≤ maxLen := by
  rcases h with ⟨rfl, rfl, rfl, rfl⟩ | ⟨x, rfl, hl, hm, hz, hcell, hwz⟩
  · exact ⟨[], rfl, .inl rfl, Nat.zero_le _⟩
  · refine ⟨zs.take len, by rw [List.length_take]; omega, ?_, Nat.le_trans hl hm⟩
    by_cases h0 : len = 0
    · subst h0; exact .inl (by simp)
    · obtain ⟨b, off, spot⟩ := x
      have hc := hcell 0 (by omega)
      have hspot : spot = none := by simpa [Addr.add] using World.cell?_spot hc
      subst hspot
      refine .inr ⟨b, off, rfl, fun i hi => ?_⟩
      rw [List.length_take] at hi
      have hci := hcell i (by omega)
      rw [Addr.add_lit] at hci
      rw [hci, List.getD_eq_getElem?_getD, List.getD_eq_getElem?_getD, List.getElem?_take, if_pos (by omega)]
set_option maxHeartbeats 1000000 in
theorem FnBitsNone_w (a : Option Addr) (len cap : Nat) (w : World) (hB : Bytes w w.heap.size a len) (hc : len ≤ cap) (hm : len ≤ maxLen) :
    Calls Try.prog 14 #[.slice a len cap] w fun e w' => e = .returned (.bool true) ∧ Below w.heap.size w w' := by
  have HB := Lib.hid hB
  clear hB
  by_cases hl : (1048576 : Int) < (len : Int)
  · go_enter Try.func14, Try.ntmps14
    go_wp2_with fail
    go_ret
    exact ⟨rfl, Below.refl _ _⟩
  · go_enter Try.func14, Try.ntmps14
    go_wp2_with fail
    refine (DrawBitsList_c a len cap w HB.out hc hm).mono ?_
    rintro e w1 ⟨n, hn0, hn1, rfl, hw1⟩
    go_wp2_with fail
    refine (implBitsList_c n _).mono ?_
    rintro e w2 ⟨v, rfl, hown, hg⟩
    go_wp2_with fail
    refine (specBitsList_c n _).mono ?_
    rintro e w3 ⟨v', rfl, hown', hg'⟩
    have hown2 := hown.keptN hg'
    obtain ⟨x, c, rfl, hI, _⟩ := hown2.val
    obtain ⟨x', c', rfl, hI', _⟩ := hown'.val
    have HI := Lib.hid hI
    have HI' := Lib.hid hI'
    have HW := Lib.hid (below_grown (below_grown hw1 hg) hg')
    have HL := Lib.hid (blp_le n 12)
    clear hI hI' hw1 hg hg' hown hown' hown2
    go_wp2_with fail
    refine (sameInts_c x x' c c' (blp n 12) (blp n 12) _ HI.out HI'.out (by have := HL.out; omega) (by have := HL.out; omega)).mono ?_
    rintro e w4 ⟨rfl, q, rfl⟩
    rw [beq_self_eq_true]
    go_wp2_with fail
    refine (implBitsOf_c (some ⟨(w3.drewN q).heap.size, 0, none⟩) 0 [] _ (.inl rfl) (by decide)).mono ?_
    rintro e w5 ⟨rfl, rfl⟩
    have e1 : boV [] = 0 := by decide
    have e2 : boO [] = true := by decide
    rw [e1, e2]
    have HWa := Lib.hid ((below_drewN HW.out q).alloc (show w.heap.size ≤ (w3.drewN q).heap.size from HW.out.size) (.cells #[] 3))
    go_wp2_with fail
    refine (implBitsList_c 0 _).mono ?_
    rintro e w6 ⟨u, rfl, hown6, hg6⟩
    obtain ⟨y, cy, rfl, _, _⟩ := hown6.val
    have HWb := Lib.hid (below_grown HWa.out hg6)
    clear hown6 hg6
    have hz : (blp 0 12).length = 0 := by rw [blp_zero]; rfl
    rw [hz]
    by_cases h : 0 < n ∧ n ≤ 4095
    · have h1 := h.1
      have h2 := h.2
      have h3 : decide (0 < n) = true := by simpa using h1
      have h4 : decide (n ≤ 4095) = true := by simpa using h2
      clear h hz
      go_wp2_with fail
      go_ret
      exact ⟨rfl, HWb.out⟩
    · have hq : (blp n 12).length = 0 := by rw [blp_nil h]; rfl
      rw [hq]
      clear hz hq
      by_cases h1 : 0 < n
      · have h4 : decide (n ≤ 4095) = false := by simp; omega
        have h3 : decide (0 < n) = true := by simpa using h1
        clear h
        go_wp2_with fail
        go_ret
        exact ⟨rfl, HWb.out⟩
      · have h3 : decide (0 < n) = false := by simpa using h1
        clear h
        go_wp2_with fail
        go_ret
        exact ⟨rfl, HWb.out⟩
set_option maxHeartbeats 400000 in
theorem FnExactBitsHas_w (a b : Int) (w : World) (_wa : (Lit.int .i64 a).wf = true) (_wb : (Lit.int .i64 b).wf = true) :
    Calls Try.prog 3 #[.int .i64 a, .int .i64 b] w fun e w' => e = .returned (.bool true) ∧ Grown w w' := by
  go_enter Try.func3, Try.ntmps3
  go_wp2_with (first | (go_at_call 17; refine (implBitsHas_c _ _ _).mono ?_; rintro e w' ⟨rfl, rfl⟩) | (go_at_call 16; refine (specBitsHas_c _ _ _).mono ?_; rintro e w' ⟨rfl, rfl⟩))
  go_ret
  exact ⟨rfl, Grown.refl _⟩
set_option maxHeartbeats 400000 in
theorem FnExactBitsJoin_w (a b : Int) (w : World) (_wa : (Lit.int .i64 a).wf = true) (_wb : (Lit.int .i64 b).wf = true) :
    Calls Try.prog 4 #[.int .i64 a, .int .i64 b] w fun e w' => e = .returned (.bool true) ∧ Grown w w' := by
  go_enter Try.func4, Try.ntmps4
  go_wp2_with (first | (go_at_call 19; refine (implBitsJoin_c _ _ _).mono ?_; rintro e w' ⟨rfl, rfl⟩) | (go_at_call 18; refine (specBitsJoin_c _ _ _).mono ?_; rintro e w' ⟨rfl, rfl⟩))
  go_ret
  exact ⟨rfl, Grown.refl _⟩
set_option maxHeartbeats 400000 in
theorem FnExactBitsWithout_w (a b : Int) (w : World) (_wa : (Lit.int .i64 a).wf = true) (_wb : (Lit.int .i64 b).wf = true) :
    Calls Try.prog 5 #[.int .i64 a, .int .i64 b] w fun e w' => e = .returned (.bool true) ∧ Grown w w' := by
  go_enter Try.func5, Try.ntmps5
  go_wp2_with (first | (go_at_call 21; refine (implBitsWithout_c _ _ _).mono ?_; rintro e w' ⟨rfl, rfl⟩) | (go_at_call 20; refine (specBitsWithout_c _ _ _).mono ?_; rintro e w' ⟨rfl, rfl⟩))
  go_ret
  exact ⟨rfl, Grown.refl _⟩
set_option maxHeartbeats 1000000 in
theorem FnExactBitsOf_w (a : Option Addr) (cap : Nat) (l : List Int) (w : World) (hI : Ints w a l) (hm : l.length ≤ maxLen) :
    Calls Try.prog 6 #[.slice a l.length cap] w fun e w' => e = .returned (.bool true) ∧ Below w.heap.size w w' := by
  unfold maxLen at hm
  have HI := Lib.hid hI
  clear hI
  by_cases hl : (1048576 : Int) < (l.length : Int)
  · go_enter Try.func6, Try.ntmps6
    go_wp2_with fail
    go_ret
    exact ⟨rfl, Below.refl _ _⟩
  · have hl' : l.length ≤ 1048576 := by omega
    go_enter Try.func6, Try.ntmps6
    go_wp2_with fail
    refine (toIntS_c a cap l _ HI.out hl').mono ?_
    rintro e w1 ⟨v1, rfl, ho1, hg1⟩
    obtain ⟨a1, c1, rfl, hI1, _⟩ := ho1.val
    have HI1 := Lib.hid hI1
    have HA1 := Lib.hid (HI.out.kept hg1)
    have HW1 := Lib.hid (below_grown (Below.refl _ w) hg1)
    clear hI1 ho1 hg1
    go_wp2_with fail
    refine (specBitsOf_c a1 c1 l _ HI1.out hl').mono ?_
    rintro e w2 ⟨rfl, rfl⟩
    go_wp2_with fail
    refine (toIntS_c a cap l _ HA1.out hl').mono ?_
    rintro e w2 ⟨v2, rfl, ho2, hg2⟩
    obtain ⟨a2, c2, rfl, hI2, _⟩ := ho2.val
    have HI2 := Lib.hid hI2
    have HA2 := Lib.hid (HA1.out.kept hg2)
    have HW2 := Lib.hid (below_grown HW1.out hg2)
    clear hI2 ho2 hg2
    go_wp2_with fail
    refine (implBitsOf_c a2 c2 l _ HI2.out hl').mono ?_
    rintro e w3 ⟨rfl, rfl⟩
    go_wp2_with fail
    refine (toIntS_c a cap l _ HA2.out hl').mono ?_
    rintro e w3 ⟨v3, rfl, ho3, hg3⟩
    obtain ⟨a3, c3, rfl, hI3, _⟩ := ho3.val
    have HI3 := Lib.hid hI3
    have HI4 := Lib.hid (HI2.out.kept hg3)
    have HW3 := Lib.hid (below_grown HW2.out hg3)
    clear hI3 ho3 hg3
    go_wp2_with fail
    refine (eqIntS_c a2 a3 c2 c3 l l _ HI4.out HI3.out hl' hl').mono ?_
    rintro e w4 ⟨rfl, q, rfl⟩
    rw [beq_self_eq_true]
    go_wp2_with fail
    go_ret
    exact ⟨rfl, below_drewN HW3.out q⟩
theorem below_marked {w w1 w2 : World} {v : Value} (h : Below w.heap.size w w1) (hg : w1.grownBy w2 v.ownBlock) (hv : ∀ k, v.ownBlock = some k → w.heap.size ≤ k) : Below w.heap.size w w2 :=
  h.trans ⟨hg.os, hg.tape, hg.output, hg.size, fun k hk => hg.block k (by have := h.size; omega) (fun e => by have := hv k e.symm; omega)⟩
theorem own_apart {w w' : World} {b : Nat} {v v' : Value} {l l' : List Int} (h : OwnI w b v l) (h' : OwnI w' w.heap.size v' l') : v.ownBlock = none ∨ v.ownBlock ≠ v'.ownBlock := by
  rcases e : v.ownBlock with _ | k
  · exact .inl rfl
  · refine .inr fun e2 => ?_
    have a1 := (h.lt k e).2
    have a2 := (h'.lt k e2.symm).1
    omega
/-- Marked numbers are held: the list reads from 1 on. -/
theorem marked_held {xs l : List Int} (hl : xs.length = l.length) (h : ∀ j, j < l.length → xs.getD j 0 = 1 + j) : ∀ j, j < xs.length → xs.getD j 0 = 1 + (j : Int) := fun j hj => h j (by omega)
set_option maxHeartbeats 1000000 in
theorem FnExactBitsList_w (n : Int) (w : World) (_wn : (Lit.int .i64 n).wf = true) :
    Calls Try.prog 7 #[.int .i64 n] w fun e w' => e = .returned (.bool true) ∧ Below w.heap.size w w' := by
  obtain ⟨L, hL⟩ : ∃ L, L = blp n 12 := ⟨_, rfl⟩
  have HE : Hid (blp n 12 = L) := hL.symm
  have hlen : L.length ≤ 12 := by rw [hL]; exact blp_le n 12
  clear hL
  go_enter Try.func7, Try.ntmps7
  go_wp2_with fail
  refine (specBitsList_c n _).mono ?_
  rintro e w1 ⟨vw, rfl, ow, g1⟩
  rw [HE.out] at ow
  go_wp2_with fail
  refine (implBitsList_c n _).mono ?_
  rintro e w2 ⟨vg, rfl, og, g2⟩
  rw [HE.out] at og
  have ow2 := ow.keptN g2
  have b2 := below_grown (below_grown (Below.refl _ w) g1) g2
  have hsz : w.heap.size ≤ w1.heap.size := g1.size
  obtain ⟨ag, cg, hvg, ig, _⟩ := og.val
  obtain ⟨aw, cw, hvw, iw, _⟩ := ow2.val
  have ap := own_apart ow og
  subst hvg
  subst hvw
  have IG := Lib.hid ig
  have IW := Lib.hid iw
  have OG := Lib.hid og
  have OW := Lib.hid ow2
  have B2 := Lib.hid b2
  have AP := Lib.hid ap
  clear ig iw og ow ow2 b2 ap g1 g2
  go_wp2_with fail
  refine (eqIntS_c ag aw cg cw L L _ IG.out IW.out (by omega) (by omega)).mono ?_
  rintro e w3 ⟨rfl, q, rfl⟩
  rw [beq_self_eq_true]
  go_wp2_with fail
  refine (markIntS_c w1.heap.size (.slice ag L.length cg) L 1 _ (OG.out.drewN q) (by omega) (by omega) (by omega)).mono ?_
  rintro e w4 ⟨rfl, g4, xs, x1, x2, og4⟩
  have B4 := Lib.hid (below_marked (below_drewN B2.out q) g4 (fun k hk => Nat.le_trans hsz ((OG.out.drewN q).lt k hk).1))
  have ow4 := (OW.out.drewN q).kept g4 (by
    rcases AP.out with h | h
    · exact .inl h
    · exact .inr h)
  obtain ⟨_, _, hv4, iw4, _⟩ := ow4.val
  cases hv4
  have IW4 := Lib.hid iw4
  obtain ⟨a4, c4, hv5, ig4, _⟩ := og4.val
  rw [x1] at hv5
  cases hv5
  have XL := Lib.hid x1
  have XH := Lib.hid (marked_held x1 x2)
  have IG4 := Lib.hid ig4
  have OG4 := Lib.hid og4
  have OW4 := Lib.hid ow4
  clear iw4 ig4 g4 ow4 og4 x1 x2
  go_wp2_with fail
  have hheld := fun (W : World) (hI : Ints W ag xs) => heldIntS_c ag cg xs 1 W hI (by have := XL.out; omega) (by omega) (by omega) XH.out
  rw [XL.out] at hheld
  have HH := Lib.hid hheld
  clear hheld
  refine (HH.out _ IG4.out).mono ?_
  rintro e w5 ⟨rfl, rfl⟩
  have hp : 0 ≤ 1 + (L.length : Int) := by omega
  go_wp2_with fail
  refine (implBitsList_c n _).mono ?_
  rintro e w6 ⟨vh, rfl, oh, g6⟩
  rw [HE.out] at oh
  obtain ⟨ah, ch, rfl, ih, _⟩ := oh.val
  have IH := Lib.hid ih
  have IW6 := Lib.hid (IW4.out.kept g6)
  have IG6 := Lib.hid (IG4.out.kept g6)
  have B6 := Lib.hid (below_grown B4.out g6)
  clear oh ih g6
  go_wp2_with fail
  refine (eqIntS_c ah aw ch cw L L _ IH.out IW6.out (by omega) (by omega)).mono ?_
  rintro e w7 ⟨rfl, r, rfl⟩
  rw [beq_self_eq_true]
  go_wp2_with fail
  refine (HH.out _ (Ints_drewN IG6.out r)).mono ?_
  rintro e w8 ⟨rfl, rfl⟩
  go_wp2_with fail
  go_ret
  exact ⟨rfl, below_drewN B6.out r⟩
end Go.Proofs.Ytnefceoconiphaa
