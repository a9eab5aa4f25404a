/-
  Contracts of joining, parting and listing sets of frames. No conditions.
-/
import Derived.Test.YtnefceoconiphaaOwn
namespace Go.Proofs.Ytnefceoconiphaa
open Go.RowKit

theorem bhV_in {n f : Int} (h1 : inR n 0 4095 = true) (h0 : 0 ≤ f) (h2 : f ≤ 11) : bhV n f = hb n f := by
  unfold bhV; rw [h1, inR_iff.2 ⟨h0, h2⟩]; rfl
theorem blp_out {n : Int} (h1 : inR n 0 4095 = false) (k : Nat) : blp n k = [] := by
  unfold blp bhV; rw [h1]; simp

set_option maxHeartbeats 1000000 in
theorem specBitsList_c (n : Int) (w : World) :
    Calls Try.prog 26 #[.int .i64 n] w fun e w' => ∃ v, e = .returned v ∧ OwnI w' w.heap.size v (blp n 12) ∧ w.grownBy w' none := by
  obtain ⟨i0, hi, hz0, hz1, hz2⟩ := info_parts infoInt
  have HI := Lib.hid hi
  have HZ0 := Lib.hid hz0
  have HZ1 := Lib.hid hz1
  have HZ2 := Lib.hid hz2
  clear hi hz0 hz1 hz2
  have hs : OwnI (w.alloc (.cells #[] 3)) w.heap.size (.slice (some ⟨w.heap.size, 0, none⟩) 0 0) [] := World.ownsRow_lit w #[] 0 (Nat.le_refl _) (by unfold maxLen; omega) rfl
  have HS := Lib.hid hs
  have hg0 := World.grownBy_alloc w (.cells #[] 3) none
  have HG0 := Lib.hid hg0
  clear hs hg0
  rcases h1 : inR n 0 4095
  · go_enter Try.func26, Try.ntmps26
    go_wp2
    go_loop [3, 4] (fun v i => v = .slice (some ⟨w.heap.size, 0, none⟩) 0 0 ∧ i = .int .i64 0) (fun _ _ => 0)
    case atStart => exact ⟨rfl, rfl⟩
    case round =>
      obtain ⟨rfl, rfl⟩ := hrel
      go_wp2_with (go_at_call 37; refine (l5Set_c _ _).mono ?_; rintro e w' ⟨rfl, rfl⟩)
      go_ret
      exact ⟨_, rfl, by rw [blp_out h1]; exact HS.out, HG0.out⟩
  · have b1 := inR_iff.1 h1
    have b2 := b1.1
    have b3 := b1.2
    clear b1
    go_enter Try.func26, Try.ntmps26
    go_wp2
    go_loopw [3, 4] (fun v i wr => ∃ k : Nat, k ≤ 12 ∧ i = .int .i64 k ∧ w.grownBy wr none ∧ OwnI wr w.heap.size v (blp n k)) (fun _ i _ => 12 - (intOf i).toNat)
    case atStart => exact ⟨0, by omega, rfl, HG0.out, HS.out⟩
    case round =>
      obtain ⟨k, hk, rfl, hg, hown⟩ := hrel
      by_cases hlt : k < 12
      · have hlt' : (k : Int) < 12 := by omega
        rcases hB : hb n k
        · have hB' : bhV n k = false := by rw [bhV_in h1 (by omega) (by omega)]; exact hB
          have HO := Lib.hid hown
          have HG := Lib.hid hg
          have HE := Lib.hid (blp_no hB')
          clear hown hg hB'
          go_wp2_with (first | (go_at_call 37; refine (l5Set_c _ _).mono ?_; rintro e w' ⟨rfl, rfl⟩) | (go_at_call 39; refine (l5Has_c _ _ _ b2 b3 (by omega) (by omega)).mono ?_; rintro e w' ⟨rfl, rfl⟩))
          go_roundw
          case rel => exact ⟨k + 1, by omega, by go_num, HG.out, by rw [HE.out]; exact HO.out⟩
          case measure => simp [intOf]; omega
        · have hB' : bhV n k = true := by rw [bhV_in h1 (by omega) (by omega)]; exact hB
          have HE := Lib.hid (blp_yes hB')
          have HL := Lib.hid (blp_le n k)
          have HG := Lib.hid hg
          clear hg hB'
          go_wp2_with (first | (go_at_call 37; refine (l5Set_c _ _).mono ?_; rintro e w' ⟨rfl, rfl⟩) | (go_at_call 39; refine (l5Has_c _ _ _ b2 b3 (by omega) (by omega)).mono ?_; rintro e w' ⟨rfl, rfl⟩) | (at_builtin; refine wpList_append_own _ rfl _ _ 24 rfl w.heap.size 3 i0 (.int .i64 0) 1 8 Try.underlying24 HI.out HZ0.out HZ1.out HZ2.out rfl (by decide) _ _ _ rfl (World.ownsRow.alloc hown _) ⟨wr.heap.size, 0, none⟩ 1 1 [.int .i64 k] rfl rfl ?c1 ?c2 ?c3 ?c4 ?c5 ?_))
          case c1 => exact one_new _ _ _
          case c2 => intro u hu; simp at hu; subst hu; rfl
          case c3 => have := HL.out; unfold maxLen; omega
          case c4 => have := HL.out; omega
          case c5 => have := HG.out.size; simp; omega
          intro v' w1 hown' hgrow _
          have HX : Hid (w.grownBy w1 none ∧ OwnI w1 w.heap.size v' (blp n (k + 1))) := by
            refine ⟨grown_own HG.out hgrow (fun j hj => (OwnI.lt hown j hj).1), ?_⟩
            rw [HE.out]
            unfold OwnI
            rw [List.map_append, List.length_append]
            exact hown'
          clear hown' hgrow hown
          go_wp2_with fail
          go_roundw
          case rel => exact ⟨k + 1, by omega, by go_num, HX.out.1, HX.out.2⟩
          case measure => simp [intOf]; omega
      · have : k = 12 := by omega
        subst this
        go_wp2_with (go_at_call 37; refine (l5Set_c _ _).mono ?_; rintro e w' ⟨rfl, rfl⟩)
        go_ret
        exact ⟨_, rfl, hown, hg⟩

/-- The number of both sets' frames; of the first alone. -/
def bjV (a b : Int) : Int := if inR a 0 4095 && inR b 0 4095 then ((a.toNat ||| b.toNat : Nat) : Int) else -1
def bwV (a b : Int) : Int := if inR a 0 4095 && inR b 0 4095 then ((wo a.toNat b.toNat : Nat) : Int) else -1
theorem two_in (a b : Int) : (inR a 0 4095 = false) ∨ (inR a 0 4095 = true ∧ inR b 0 4095 = false) ∨ (inR a 0 4095 = true ∧ inR b 0 4095 = true) := by
  rcases inR a 0 4095 <;> rcases inR b 0 4095 <;> simp
/-- The first k frames of a number, weighed. -/
def low (t k : Nat) : Int := ((t % 2 ^ k : Nat) : Int)
theorem low_yes {t k : Nat} (h : t.testBit k = true) : low t (k + 1) = low t k + p2 k := by
  unfold low p2; rw [mod_succ, h]; simp
theorem low_no {t k : Nat} (h : t.testBit k = false) : low t (k + 1) = low t k := by
  unfold low; rw [mod_succ, h]; simp
theorem low_bd (t k : Nat) (hk : k ≤ 12) : 0 ≤ low t k ∧ low t k ≤ 4096 := by
  unfold low
  have : t % 2 ^ k < 2 ^ k := Nat.mod_lt _ (Nat.pow_pos (by decide))
  have : 2 ^ k ≤ 2 ^ 12 := Nat.pow_le_pow_right (by decide) hk
  omega
theorem low_all {t : Nat} (h : t < 4096) : low t 12 = t := by
  unfold low; rw [Nat.mod_eq_of_lt (show t < 2 ^ 12 from h)]
set_option maxHeartbeats 400000 in
theorem implBitsJoin_c (a b : Int) (w : World) :
    Calls Try.prog 19 #[.int .i64 a, .int .i64 b] w fun e w' => e = .returned (.int .i64 (bjV a b)) ∧ w = w' := by
  rcases two_in a b with h1 | ⟨h1, h2⟩ | ⟨h1, h2⟩
  · have HE : Hid (bjV a b = -1) := by show bjV a b = -1; simp [bjV, h1]
    go_enter Try.func19, Try.ntmps19
    go_wp2_with (go_at_call 40; refine (isBits_c _ _).mono ?_; rintro e w' ⟨rfl, rfl⟩)
    go_ret
    exact ⟨by rw [HE.out]; rfl, rfl⟩
  · have HE : Hid (bjV a b = -1) := by show bjV a b = -1; simp [bjV, h1, h2]
    go_enter Try.func19, Try.ntmps19
    go_wp2_with (go_at_call 40; refine (isBits_c _ _).mono ?_; rintro e w' ⟨rfl, rfl⟩)
    go_ret
    exact ⟨by rw [HE.out]; rfl, rfl⟩
  · have b1 := inR_iff.1 h1
    have b2 := inR_iff.1 h2
    have HE : Hid (bits .or .i64 a b = bjV a b) := by
      show bits .or .i64 a b = bjV a b
      simp only [bjV, h1, h2, Bool.and_self, if_true]
      obtain ⟨x, rfl⟩ := Int.eq_ofNat_of_zero_le b1.1
      obtain ⟨y, rfl⟩ := Int.eq_ofNat_of_zero_le b2.1
      rw [Int.toNat_natCast, Int.toNat_natCast]
      exact (i64_bits_nat x y (by omega) (by omega)).2
    clear b1 b2
    go_enter Try.func19, Try.ntmps19
    go_wp2_with (go_at_call 40; refine (isBits_c _ _).mono ?_; rintro e w' ⟨rfl, rfl⟩)
    go_ret
    exact ⟨by rw [← HE.out]; rfl, rfl⟩
set_option maxHeartbeats 400000 in
theorem specBitsJoin_c (a b : Int) (w : World) :
    Calls Try.prog 18 #[.int .i64 a, .int .i64 b] w fun e w' => e = .returned (.int .i64 (bjV a b)) ∧ w = w' := by
  rcases two_in a b with h1 | ⟨h1, h2⟩ | ⟨h1, h2⟩
  · have HE : Hid (bjV a b = -1) := by show bjV a b = -1; simp [bjV, h1]
    go_enter Try.func18, Try.ntmps18
    go_wp2_with (go_at_call 37; refine (l5Set_c _ _).mono ?_; rintro e w' ⟨rfl, rfl⟩)
    go_ret
    exact ⟨by rw [HE.out]; rfl, rfl⟩
  · have HE : Hid (bjV a b = -1) := by show bjV a b = -1; simp [bjV, h1, h2]
    go_enter Try.func18, Try.ntmps18
    go_wp2_with (go_at_call 37; refine (l5Set_c _ _).mono ?_; rintro e w' ⟨rfl, rfl⟩)
    go_ret
    exact ⟨by rw [HE.out]; rfl, rfl⟩
  · have b1 := inR_iff.1 h1
    have b2 := inR_iff.1 h2
    have b3 := b1.1
    have b4 := b1.2
    have b5 := b2.1
    have b6 := b2.2
    clear b1 b2
    obtain ⟨t, ht⟩ : ∃ t, t = a.toNat ||| b.toNat := ⟨_, rfl⟩
    have htl : t < 4096 := by rw [ht]; exact or_lt' (by omega) (by omega)
    have HE : Hid (low t 12 = bjV a b) := by
      show low t 12 = bjV a b
      rw [low_all htl, ht]
      simp only [bjV, h1, h2, Bool.and_self, if_true]
    have HT : ∀ k : Nat, Hid (t.testBit k = (hb a k || hb b k)) := by
      intro k
      show t.testBit k = _
      rw [ht, Nat.testBit_or]; rfl
    clear ht htl
    go_enter Try.func18, Try.ntmps18
    go_wp2_with (go_at_call 37; refine (l5Set_c _ _).mono ?_; rintro e w' ⟨rfl, rfl⟩)
    go_loop [5, 6] (fun o i => ∃ k : Nat, k ≤ 12 ∧ i = .int .i64 k ∧ o = .int .i64 (low t k)) (fun _ i => 12 - (intOf i).toNat)
    case atStart => exact ⟨0, by omega, rfl, by simp [low, Nat.mod_one]⟩
    case round =>
      obtain ⟨k, hk, rfl, rfl⟩ := hrel
      have l1 := (low_bd t k hk).1
      have l2 := (low_bd t k hk).2
      by_cases hlt : k < 12
      · have hlt' : (k : Int) < 12 := by omega
        have hp1 := p2_pos k
        have hp2 := p2_le k (by omega)
        rcases hA : hb a k <;> rcases hC : hb b k
        all_goals
          have hT := (HT k).out
          rw [hA, hC] at hT
          simp at hT
          first
            | have HY := Lib.hid (low_yes hT)
              clear hT
              go_wp2_with (first | (go_at_call 39; refine (l5Has_c _ _ _ (by omega) (by omega) (by omega) (by omega)).mono ?_; rintro e w' ⟨rfl, rfl⟩) | (go_at_call 42; refine (l5Weight_c _ _ (by omega) (by omega)).mono ?_; rintro e w' ⟨rfl, rfl⟩))
              go_round
              case rel => exact ⟨k + 1, by omega, by go_num, by rw [HY.out]⟩
              case measure => simp [intOf]; omega
            | have HY := Lib.hid (low_no hT)
              clear hT
              go_wp2_with (first | (go_at_call 39; refine (l5Has_c _ _ _ (by omega) (by omega) (by omega) (by omega)).mono ?_; rintro e w' ⟨rfl, rfl⟩) | (go_at_call 42; refine (l5Weight_c _ _ (by omega) (by omega)).mono ?_; rintro e w' ⟨rfl, rfl⟩))
              go_round
              case rel => exact ⟨k + 1, by omega, by go_num, by rw [HY.out]⟩
              case measure => simp [intOf]; omega
      · have : k = 12 := by omega
        subst this
        go_wp2
        go_ret
        exact ⟨by rw [← HE.out]; rfl, rfl⟩
set_option maxHeartbeats 400000 in
theorem implBitsWithout_c (a b : Int) (w : World) :
    Calls Try.prog 21 #[.int .i64 a, .int .i64 b] w fun e w' => e = .returned (.int .i64 (bwV a b)) ∧ w = w' := by
  rcases two_in a b with h1 | ⟨h1, h2⟩ | ⟨h1, h2⟩
  · have HE : Hid (bwV a b = -1) := by show bwV a b = -1; simp [bwV, h1]
    go_enter Try.func21, Try.ntmps21
    go_wp2_with (go_at_call 40; refine (isBits_c _ _).mono ?_; rintro e w' ⟨rfl, rfl⟩)
    go_ret
    exact ⟨by rw [HE.out]; rfl, rfl⟩
  · have HE : Hid (bwV a b = -1) := by show bwV a b = -1; simp [bwV, h1, h2]
    go_enter Try.func21, Try.ntmps21
    go_wp2_with (go_at_call 40; refine (isBits_c _ _).mono ?_; rintro e w' ⟨rfl, rfl⟩)
    go_ret
    exact ⟨by rw [HE.out]; rfl, rfl⟩
  · have b1 := inR_iff.1 h1
    have b2 := inR_iff.1 h2
    have HE : Hid (bits .andNot .i64 a b = bwV a b) := by
      show bits .andNot .i64 a b = bwV a b
      simp only [bwV, h1, h2, Bool.and_self, if_true]
      obtain ⟨x, rfl⟩ := Int.eq_ofNat_of_zero_le b1.1
      obtain ⟨y, rfl⟩ := Int.eq_ofNat_of_zero_le b2.1
      rw [Int.toNat_natCast, Int.toNat_natCast]
      exact i64_andNot_nat x y (by omega) (by omega)
    clear b1 b2
    go_enter Try.func21, Try.ntmps21
    go_wp2_with (go_at_call 40; refine (isBits_c _ _).mono ?_; rintro e w' ⟨rfl, rfl⟩)
    go_ret
    exact ⟨by rw [← HE.out]; rfl, rfl⟩
set_option maxHeartbeats 400000 in
theorem specBitsWithout_c (a b : Int) (w : World) :
    Calls Try.prog 20 #[.int .i64 a, .int .i64 b] w fun e w' => e = .returned (.int .i64 (bwV a b)) ∧ w = w' := by
  rcases two_in a b with h1 | ⟨h1, h2⟩ | ⟨h1, h2⟩
  · have HE : Hid (bwV a b = -1) := by show bwV a b = -1; simp [bwV, h1]
    go_enter Try.func20, Try.ntmps20
    go_wp2_with (go_at_call 37; refine (l5Set_c _ _).mono ?_; rintro e w' ⟨rfl, rfl⟩)
    go_ret
    exact ⟨by rw [HE.out]; rfl, rfl⟩
  · have HE : Hid (bwV a b = -1) := by show bwV a b = -1; simp [bwV, h1, h2]
    go_enter Try.func20, Try.ntmps20
    go_wp2_with (go_at_call 37; refine (l5Set_c _ _).mono ?_; rintro e w' ⟨rfl, rfl⟩)
    go_ret
    exact ⟨by rw [HE.out]; rfl, rfl⟩
  · have b1 := inR_iff.1 h1
    have b2 := inR_iff.1 h2
    have b3 := b1.1
    have b4 := b1.2
    have b5 := b2.1
    have b6 := b2.2
    clear b1 b2
    obtain ⟨t, ht⟩ : ∃ t, t = wo a.toNat b.toNat := ⟨_, rfl⟩
    have htl : t < 4096 := by rw [ht]; exact wo_lt (by omega)
    have HE : Hid (low t 12 = bwV a b) := by
      show low t 12 = bwV a b
      rw [low_all htl, ht]
      simp only [bwV, h1, h2, Bool.and_self, if_true]
    have HT : ∀ k : Nat, Hid (t.testBit k = (hb a k && !hb b k)) := by
      intro k
      show t.testBit k = _
      rw [ht, testBit_wo]; rfl
    clear ht htl
    go_enter Try.func20, Try.ntmps20
    go_wp2_with (go_at_call 37; refine (l5Set_c _ _).mono ?_; rintro e w' ⟨rfl, rfl⟩)
    go_loop [5, 6] (fun o i => ∃ k : Nat, k ≤ 12 ∧ i = .int .i64 k ∧ o = .int .i64 (low t k)) (fun _ i => 12 - (intOf i).toNat)
    case atStart => exact ⟨0, by omega, rfl, by simp [low, Nat.mod_one]⟩
    case round =>
      obtain ⟨k, hk, rfl, rfl⟩ := hrel
      have l1 := (low_bd t k hk).1
      have l2 := (low_bd t k hk).2
      by_cases hlt : k < 12
      · have hlt' : (k : Int) < 12 := by omega
        have hp1 := p2_pos k
        have hp2 := p2_le k (by omega)
        rcases hA : hb a k <;> rcases hC : hb b k
        all_goals
          have hT := (HT k).out
          rw [hA, hC] at hT
          simp at hT
          first
            | have HY := Lib.hid (low_yes hT)
              clear hT
              go_wp2_with (first | (go_at_call 39; refine (l5Has_c _ _ _ (by omega) (by omega) (by omega) (by omega)).mono ?_; rintro e w' ⟨rfl, rfl⟩) | (go_at_call 42; refine (l5Weight_c _ _ (by omega) (by omega)).mono ?_; rintro e w' ⟨rfl, rfl⟩))
              go_round
              case rel => exact ⟨k + 1, by omega, by go_num, by rw [HY.out]⟩
              case measure => simp [intOf]; omega
            | have HY := Lib.hid (low_no hT)
              clear hT
              go_wp2_with (first | (go_at_call 39; refine (l5Has_c _ _ _ (by omega) (by omega) (by omega) (by omega)).mono ?_; rintro e w' ⟨rfl, rfl⟩) | (go_at_call 42; refine (l5Weight_c _ _ (by omega) (by omega)).mono ?_; rintro e w' ⟨rfl, rfl⟩))
              go_round
              case rel => exact ⟨k + 1, by omega, by go_num, by rw [HY.out]⟩
              case measure => simp [intOf]; omega
      · have : k = 12 := by omega
        subst this
        go_wp2
        go_ret
        exact ⟨by rw [← HE.out]; rfl, rfl⟩
end Go.Proofs.Ytnefceoconiphaa
