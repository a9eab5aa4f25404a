/-
  The walks of the laws on lists of frames: each returns true and writes nothing that was there. No conditions.
-/
import Derived.Test.YtnefceoconiphaaLawB
import Derived.Test.YtnefceoconiphaaDrawBits
namespace Go.Proofs.Ytnefceoconiphaa
open Go.RowKit

/-- What is known of a list that has a number. -/
theorem boO_facts {l : List Int} (h : boO l = true) : ∃ m : Nat, m < 4096 ∧ bo 0 l = some m ∧ boV l = m ∧ (blp m 12).length = l.length ∧ (∀ x ∈ blp m 12, x ∈ l) ∧ (blp m 12).Pairwise (· < ·) ∧ l.Nodup := by
  rcases e : bo 0 l with _ | m
  · simp [boO, e] at h
  · obtain ⟨g1, g2, g3, g4, g5⟩ := bo_some l 0 m (by decide) e
    have hin : inR (m : Int) 0 4095 = true := by rw [inR_iff]; omega
    have hbl := blp_bl hin
    rw [Int.toNat_natCast] at hbl
    refine ⟨m, g1, rfl, by simp [boV, e], ?_, ?_, ?_, g3⟩
    · rw [hbl, List.length_map, g5]
      have : (bl 0).length = 0 := by decide
      omega
    · intro x hx
      rw [hbl, List.mem_map] at hx
      obtain ⟨j, hj, rfl⟩ := hx
      have := (mem_bl g1).1 hj
      rw [g4] at this
      simpa using this
    · rw [hbl]
      refine List.pairwise_map.2 ?_
      refine List.Pairwise.imp ?_ (List.Pairwise.filter _ List.pairwise_lt_range)
      intro a b hab
      omega
theorem asc_getD {X : List Int} (h : X.Pairwise (· < ·)) {i j : Nat} (hij : i < j) (hj : j < X.length) : X.getD i 0 < X.getD j 0 := by
  have := List.pairwise_iff_getElem.1 h i j (by omega) hj hij
  rw [List.getD_eq_getElem?_getD, List.getD_eq_getElem?_getD, List.getElem?_eq_getElem hj, List.getElem?_eq_getElem (by omega)]
  exact this

set_option maxHeartbeats 1000000 in
theorem FnBits_w (a : Option Addr) (len cap : Nat) (w : World) (hB : Bytes w w.heap.size a len) (hc : len ≤ cap) (hm : len ≤ maxLen) :
    Calls Try.prog 15 #[.slice a len cap] w fun e w' => e = .returned (.bool true) ∧ Below w.heap.size w w' := by
  have HB := Lib.hid hB
  clear hB
  by_cases hl : (1048576 : Int) < (len : Int)
  · go_enter Try.func15, Try.ntmps15
    go_wp2_with fail
    go_ret
    exact ⟨rfl, Below.refl _ _⟩
  · go_enter Try.func15, Try.ntmps15
    go_wp2_with fail
    refine (DrawBitsOf_c a len cap w HB.out hc hm).mono ?_
    rintro e w1 ⟨v, l, rfl, hown, hl12, hw1⟩
    obtain ⟨x, c, rfl, hI, _⟩ := hown.val
    have HI := Lib.hid hI
    have HW1 := Lib.hid hw1
    clear hI hw1 hown
    go_wp2_with fail
    refine (implBitsOf_c x c l _ HI.out (by omega)).mono ?_
    rintro e w2 ⟨rfl, rfl⟩
    go_wp2_with fail
    refine (specBitsOf_c x c l _ HI.out (by omega)).mono ?_
    rintro e w2 ⟨rfl, rfl⟩
    rcases h : boO l
    · go_wp2_with fail
      go_ret
      exact ⟨rfl, HW1.out⟩
    · obtain ⟨m, m1, _, m2, m3, m4, m5, _⟩ := boO_facts h
      rw [m2]
      have M3 := Lib.hid m3
      have M4 := Lib.hid m4
      have M5 := Lib.hid m5
      clear m3 m4 m5 m2 m1
      go_wp2_with fail
      refine (implBitsList_c m _).mono ?_
      rintro e w3 ⟨v', rfl, ho, hg⟩
      obtain ⟨y, cy, rfl, hJ, _⟩ := ho.val
      obtain ⟨X, hX⟩ : ∃ X, X = blp m 12 := ⟨_, rfl⟩
      rw [← hX] at hJ M3 M4 M5 ⊢
      obtain ⟨n, hn⟩ : ∃ n, n = X.length := ⟨_, rfl⟩
      have HN : Hid (X.length = n) := hn.symm
      have HL : Hid (l.length = n) := by show l.length = n; rw [hn]; exact M3.out.symm
      have hn12 : n ≤ 12 := by have := HL.out; omega
      have HI3 := Lib.hid (HI.out.kept hg)
      have HJ := Lib.hid hJ
      have HW3 := Lib.hid (below_grown HW1.out hg)
      rw [← hn]
      clear hn hX hJ ho hg
      go_wp2_with fail
      go_loopw [9] (fun i wr => ∃ k : Nat, k ≤ n ∧ i = .int .i64 k ∧ Hid (∃ q, wr = w3.drewN q)) (fun i _ => n - (intOf i).toNat)
      case atStart => exact ⟨0, Nat.zero_le _, rfl, 0, rfl⟩
      case round =>
        obtain ⟨k, hk, rfl, HQ⟩ := hrel
        have HJr : Hid (Ints wr y X) := by obtain ⟨q, hq⟩ := HQ.out; show Ints wr y X; rw [hq]; exact Ints_drewN HJ.out q
        have HIr : Hid (Ints wr x l) := by obtain ⟨q, hq⟩ := HQ.out; show Ints wr x l; rw [hq]; exact Ints_drewN HI3.out q
        by_cases hlt : k < n
        · rcases HJr.out with h0 | ⟨b, off, rfl, hcs⟩
          · have := HN.out; rw [h0] at this; simp at this; omega
          have hck := hcs k (by rw [HN.out]; exact hlt)
          have hh : hasN l (X.getD k 0) = true := by
            unfold hasN
            rw [decide_eq_true_eq]
            exact M4.out _ (getD_mem (by rw [HN.out]; exact hlt))
          by_cases hk0 : k = 0
          · have hz : decide ((0 : Int) < (k : Int)) = false := by simp; omega
            have hzn : decide (0 < k) = false := by simp; omega
            generalize X.getD k 0 = f at *
            clear hcs hk0
            go_wp2_with fail
            go_quiet ((go_at_call 32; exact Calls.quiet_of_same ((hasNumber_c x c l f _ (Ints_drewN HIr.out _) (by omega)).mono fun _ _ h => ⟨h.1.trans (by rw [hh]), h.2.symm⟩)))
            go_wp2_with fail
            go_roundw
            case rel => exact ⟨k + 1, by omega, by go_num, by obtain ⟨q, hq⟩ := HQ.out; exact ⟨q + nq, by rw [hq, World.drewN_drewN]⟩⟩
            case measure => simp [intOf]; omega
          · have hz : decide ((0 : Int) < (k : Int)) = true := by simp; omega
            have hzn : decide (0 < k) = true := by simp; omega
            have hcp := hcs (k - 1) (by rw [HN.out]; omega)
            have hlt2 := asc_getD M5.out (i := k - 1) (j := k) (by omega) (by rw [HN.out]; exact hlt)
            have hk1 : (1 : Int) ≤ (k : Int) := by omega
            generalize X.getD k 0 = f at *
            generalize X.getD (k - 1) 0 = p at *
            have hge : decide (f ≤ p) = false := by simp; omega
            clear hcs hk0 hlt2
            go_wp2_with fail
            go_quiet ((go_at_call 32; exact Calls.quiet_of_same ((hasNumber_c x c l f _ (Ints_drewN HIr.out _) (by omega)).mono fun _ _ h => ⟨h.1.trans (by rw [hh]), h.2.symm⟩)))
            go_wp2_with fail
            go_roundw
            case rel => exact ⟨k + 1, by omega, by go_num, by obtain ⟨q, hq⟩ := HQ.out; exact ⟨q + nq, by rw [hq, World.drewN_drewN]⟩⟩
            case measure => simp [intOf]; omega
        · have : k = n := by omega
          subst this
          have h2 : ((k : Int) == (l.length : Int)) = true := by rw [HL.out]; simp
          go_wp2_with fail
          go_ret
          obtain ⟨q, hq⟩ := HQ.out
          exact ⟨rfl, by rw [hq]; exact below_drewN HW3.out q⟩
/-- What has been turned round when t is the next place. -/
def rev (l : List Int) (t : Int) : List Int := (l.drop (t + 1).toNat).reverse
theorem rev_step {l : List Int} {j : Nat} (h : j < l.length) : rev l ((j : Int) - 1) = rev l j ++ [l.getD j 0] := by
  unfold rev
  have e1 : ((j : Int) - 1 + 1).toNat = j := by omega
  have e2 : ((j : Int) + 1).toNat = j + 1 := by omega
  rw [e1, e2, List.drop_eq_getElem_cons h, List.reverse_cons, List.getD_eq_getElem?_getD, List.getElem?_eq_getElem h]
  rfl
theorem rev_start (l : List Int) : rev l ((l.length : Int) - 1) = [] := by
  unfold rev
  have e : ((l.length : Int) - 1 + 1).toNat = l.length := by omega
  rw [e, List.drop_length]; rfl
theorem rev_end (l : List Int) : rev l (-1) = l.reverse := by simp [rev]
theorem rev_le (l : List Int) (t : Int) : (rev l t).length ≤ l.length := by unfold rev; rw [List.length_reverse, List.length_drop]; omega
set_option maxHeartbeats 2000000 in
theorem FnBitsOrder_w (a : Option Addr) (len cap : Nat) (w : World) (hB : Bytes w w.heap.size a len) (hc : len ≤ cap) (hm : len ≤ maxLen) :
    Calls Try.prog 12 #[.slice a len cap] w fun e w' => e = .returned (.bool true) ∧ Below w.heap.size w w' := by
  have HB := Lib.hid hB
  clear hB
  obtain ⟨i0, hi, hz0, hz1, hz2⟩ := info_parts infoInt
  have HI0 := Lib.hid hi
  have HZ0 := Lib.hid hz0
  have HZ1 := Lib.hid hz1
  have HZ2 := Lib.hid hz2
  clear hi hz0 hz1 hz2
  by_cases hl : (1048576 : Int) < (len : Int)
  · go_enter Try.func12, Try.ntmps12
    go_wp2_with fail
    go_ret
    exact ⟨rfl, Below.refl _ _⟩
  · go_enter Try.func12, Try.ntmps12
    go_wp2_with fail
    refine (DrawBitsOf_c a len cap w HB.out hc hm).mono ?_
    rintro e w1 ⟨v, l, rfl, hown, hl12, hw1⟩
    obtain ⟨x, c, rfl, hI, _⟩ := hown.val
    have HI := Lib.hid hI
    have HW1 := Lib.hid hw1
    clear hI hw1 hown
    go_wp2_with fail
    refine (implBitsOf_c x c l _ HI.out (by omega)).mono ?_
    rintro e w2 ⟨rfl, rfl⟩
    go_wp2_with fail
    refine (specBitsOf_c x c l _ HI.out (by omega)).mono ?_
    rintro e w2 ⟨rfl, rfl⟩
    rcases h : boO l
    · go_wp2_with fail
      go_ret
      exact ⟨rfl, HW1.out⟩
    · obtain ⟨m, m1, mb, m2, m3, m4, m5, m6⟩ := boO_facts h
      rw [m2]
      have R1 : Hid (boV l.reverse = m ∧ boO l.reverse = true) := by
        have hp := bo_perm mb (l' := l.reverse) (fun x => List.mem_reverse) (List.pairwise_reverse.2 (m6.imp fun h => h.symm))
        exact ⟨by simp [boV, hp], by simp [boO, hp]⟩
      clear m3 m4 m5 m2 m1 mb m6 h
      have hs : OwnI (w1.alloc (.cells #[] 3)) w1.heap.size (.slice (some ⟨w1.heap.size, 0, none⟩) 0 0) [] := World.ownsRow_lit w1 #[] 0 (Nat.le_refl _) (by unfold maxLen; omega) rfl
      have HS := Lib.hid hs
      have HG0 := Lib.hid (World.grownBy_alloc w1 (.cells #[] 3) none)
      clear hs
      have HRs := Lib.hid (rev_start l)
      go_wp2_with fail
      go_loopw [8, 9] (fun u i wr => ∃ t : Int, -1 ≤ t ∧ t < l.length ∧ i = .int .i64 t ∧ w1.grownBy wr none ∧ OwnI wr w1.heap.size u (rev l t)) (fun _ i _ => (intOf i + 1).toNat)
      case atStart => exact ⟨(l.length : Int) - 1, by omega, by omega, rfl, HG0.out, by rw [HRs.out]; exact HS.out⟩
      case round =>
        obtain ⟨t, ht0, ht1, rfl, hg, ho⟩ := hrel
        by_cases hlt : 0 ≤ t
        · obtain ⟨j, rfl⟩ := Int.eq_ofNat_of_zero_le hlt
          have hj : j < l.length := by omega
          rcases (HI.out.kept hg) with h0 | ⟨b, off, rfl, hcs⟩
          · rw [h0] at hj; simp at hj
          have hck := hcs j hj
          have HE := Lib.hid (rev_step hj)
          have HL := Lib.hid (rev_le l j)
          have HG := Lib.hid hg
          generalize l.getD j 0 = f at *
          clear hcs hg
          go_wp2_with (at_builtin; refine wpList_append_own _ rfl _ _ 24 rfl w1.heap.size 3 i0 (.int .i64 0) 1 8 Try.underlying24 HI0.out HZ0.out HZ1.out HZ2.out rfl (by decide) _ _ _ rfl (World.ownsRow.alloc ho _) ⟨wr.heap.size, 0, none⟩ 1 1 [.int .i64 f] rfl rfl ?c1 ?c2 ?c3 ?c4 ?c5 ?_)
          case c1 => exact one_new _ _ _
          case c2 => intro u hu; simp at hu; subst hu; rfl
          case c3 => have := HL.out; unfold maxLen; omega
          case c4 => have := HL.out; omega
          case c5 => have := HG.out.size; simp; omega
          intro v' w3 hown' hgrow _
          have HX : Hid (w1.grownBy w3 none ∧ OwnI w3 w1.heap.size v' (rev l ((j : Int) - 1))) := by
            refine ⟨grown_own HG.out hgrow (fun j hj => (OwnI.lt ho j hj).1), ?_⟩
            rw [HE.out]
            unfold OwnI
            rw [List.map_append, List.length_append]
            exact hown'
          clear hown' hgrow ho
          go_wp2_with fail
          go_roundw
          case rel => exact ⟨(j : Int) - 1, by omega, by omega, rfl, HX.out.1, HX.out.2⟩
          case measure => simp [intOf]
        · have : t = -1 := by omega
          subst this
          rw [rev_end] at ho
          have HO := Lib.hid ho
          have HG := Lib.hid hg
          have HI3 := Lib.hid (HI.out.kept hg)
          have HW3 := Lib.hid (below_grown HW1.out hg)
          obtain ⟨y, cy, rfl, hJ, _⟩ := ho.val
          have HJ := Lib.hid hJ
          have hcon := implBitsOf_c y cy l.reverse wr HJ.out (by rw [List.length_reverse]; omega)
          rw [List.length_reverse, R1.out.1, R1.out.2] at hcon
          have HCON := Lib.hid hcon
          have HO2 : Hid (wr.ownsRow w1.heap.size 3 1 (.slice y l.length cy) l.length (l.reverse.map (Value.int .i64))) := by
            have := HO.out
            unfold OwnI at this
            rw [List.length_reverse] at this
            exact this
          rw [List.length_reverse]
          clear hJ ho hg hcon
          go_wp2_with fail
          refine HCON.out.mono ?_
          rintro e w4 ⟨rfl, rfl⟩
          by_cases hn : l.length = 0
          · have hn' : ¬ (0 : Int) < (l.length : Int) := by omega
            go_wp2_with fail
            go_ret
            exact ⟨rfl, HW3.out⟩
          · have hn' : (0 : Int) < (l.length : Int) := by omega
            rcases HI3.out with h0 | ⟨b, off, rfl, hcs⟩
            · rw [h0] at hn; simp at hn
            have hck := hcs 0 (by omega)
            rw [Nat.add_zero] at hck
            have HT : Hid (boO (l.reverse ++ [l.getD 0 0]) = false) := by
              show boO _ = false
              unfold boO
              rw [bo_twice (List.mem_reverse.2 (getD_mem (by omega)))]; rfl
            generalize l.getD 0 0 = f at *
            clear hcs
            go_wp2_with (at_builtin; refine wpList_append_own _ rfl _ _ 24 rfl w1.heap.size 3 i0 (.int .i64 0) 1 8 Try.underlying24 HI0.out HZ0.out HZ1.out HZ2.out rfl (by decide) _ _ _ rfl (World.ownsRow.alloc HO2.out _) ⟨wr.heap.size, 0, none⟩ 1 1 [.int .i64 f] rfl rfl ?c1 ?c2 ?c3 ?c4 ?c5 ?_)
            case c1 => exact one_new _ _ _
            case c2 => intro u hu; simp at hu; subst hu; rfl
            case c3 => unfold maxLen; omega
            case c4 => omega
            case c5 => have := HG.out.size; simp; omega
            intro v' w5 hown' hgrow _
            have HX : Hid (Below w.heap.size w w5 ∧ OwnI w5 w1.heap.size v' (l.reverse ++ [f])) := by
              refine ⟨below_grown HW1.out (grown_own HG.out hgrow (fun j hj => (World.ownsRow.lt HO2.out j hj).1)), ?_⟩
              unfold OwnI
              rw [List.map_append, List.length_append, List.length_reverse, List.map_reverse]
              exact hown'
            clear hown' hgrow
            obtain ⟨y2, c2, rfl, hJ2, _⟩ := HX.out.2.val
            have HJ2 := Lib.hid hJ2
            clear hJ2
            have hcon := implBitsOf_c y2 c2 (l.reverse ++ [f]) w5 HJ2.out (by simp; omega)
            rw [HT.out] at hcon
            simp only [List.length_append, List.length_reverse, List.length_cons, List.length_nil, Nat.zero_add] at hcon
            have HCON2 := Lib.hid hcon
            clear hcon
            go_wp2_with fail
            refine HCON2.out.mono ?_
            rintro e w6 ⟨rfl, rfl⟩
            go_wp2_with fail
            go_ret
            exact ⟨rfl, HX.out.1⟩
end Go.Proofs.Ytnefceoconiphaa
