/-
  The walks of the laws on drawn memories: each returns true and writes nothing that was there. No conditions.
-/
import Derived.Test.YtjmlfjpocjmnpaaDrawMs
namespace Go.Proofs.Ytjmlfjpocjmnpaa
open Go.RowKit

theorem small_nil : Small [] := by unfold Small; simp [sums]
theorem small_set {ls : List (List Int)} (hv : mvB ls = true) (k : Nat) (l : List Int) (hl : l.length = 4) : Small (ls.set k l) := by
  obtain ⟨h1, h2, _⟩ := mv_shape hv
  refine Small.of (by rw [List.length_set]; omega) (fun i hi => ?_)
  rw [List.length_set] at hi
  rcases Nat.lt_or_ge k ls.length with hk | hk
  · rw [getD_setL _ _ _ _ hk]
    split
    · omega
    · rw [h2 i (by omega)]; omega
  · rw [List.set_eq_of_length_le hk, h2 i (by omega)]; omega
theorem wd_of {l : List Int} (h : l.length = 4) (h2 : ∀ j, j < 4 → 0 ≤ l.getD j 0 ∧ l.getD j 0 ≤ 9999) : wdB l = true := by
  unfold wdB
  rw [Bool.and_eq_true, decide_eq_true_eq]
  exact ⟨h, all_yes (p := fun n => inR n 0 9999) fun j hj => inR_iff.2 (h2 j (by omega))⟩
theorem mv_of {ls : List (List Int)} (h : ls.length = 12) (h2 : ∀ i, i < 12 → wdB (ls.getD i []) = true) : mvB ls = true := by
  unfold mvB
  rw [Bool.and_eq_true, decide_eq_true_eq]
  exact ⟨h, allL_yes fun j hj => h2 j (by omega)⟩
theorem mv_rows {ls : List (List Int)} (h : mvB ls = true) {i : Nat} (hi : i < 12) : wdB (ls.getD i []) = true := by
  obtain ⟨h1, h2, h3⟩ := mv_shape h
  exact wd_of (h2 i hi) (fun j hj => h3 i j hi hj)
theorem mv_set {ls : List (List Int)} (hv : mvB ls = true) {k : Nat} {l : List Int} (hl : wdB l = true) : mvB (ls.set k l) = true := by
  obtain ⟨h1, h2, h3⟩ := mv_shape hv
  refine mv_of (by rw [List.length_set]; exact h1) (fun i hi => ?_)
  rcases Nat.lt_or_ge k ls.length with hk | hk
  · rw [getD_setL _ _ _ _ hk]
    split
    · exact hl
    · exact mv_rows hv hi
  · rw [List.set_eq_of_length_le hk]; exact mv_rows hv hi
theorem putL_ok {ls : List (List Int)} {f t n : Int} (hv : mvB ls = true) (h2 : inR f 0 11 = true) (h3 : inR t 0 3 = true) (h4 : inR n 0 9999 = true) :
    mvB (putL ls f t n) = true ∧ ∀ i j : Nat, i < 12 → j < 4 → cellM (putL ls f t n) i j = if (i : Int) = f ∧ (j : Int) = t then n else cellM ls i j := by
  have b2 := inR_iff.1 h2
  have b3 := inR_iff.1 h3
  have b4 := inR_iff.1 h4
  obtain ⟨k1, k2, k3⟩ := mv_shape hv
  have hf : f.toNat < ls.length := by omega
  have hl : (ls.getD f.toNat []).length = 4 := k2 _ (by omega)
  have hset : ∀ j, ((ls.getD f.toNat []).set t.toNat n).getD j 0 = if j = t.toNat then n else (ls.getD f.toNat []).getD j 0 := fun j => getD_set _ _ _ _ (by omega)
  refine ⟨mv_set hv (wd_of (by rw [List.length_set]; exact hl) fun j hj => ?_), fun i j hi hj => ?_⟩
  · rw [hset]
    split
    · exact b4
    · exact k3 _ _ (by omega) hj
  · unfold cellM putL
    rw [Int.toNat_natCast, Int.toNat_natCast, getD_setL _ _ _ _ hf]
    by_cases e : i = f.toNat
    · rw [if_pos e, hset]
      by_cases e2 : j = t.toNat
      · rw [if_pos e2, if_pos (by omega)]
      · rw [if_neg e2, if_neg (by omega), e]
    · rw [if_neg e, if_neg (by omega)]
theorem putL_back {ls : List (List Int)} {f t n : Int} (hv : mvB ls = true) (h2 : inR f 0 11 = true) (h3 : inR t 0 3 = true) : putL (putL ls f t n) f t (cellM ls f t) = ls := by
  have b2 := inR_iff.1 h2
  have b3 := inR_iff.1 h3
  obtain ⟨k1, k2, k3⟩ := mv_shape hv
  have hf : f.toNat < ls.length := by omega
  have hl : (ls.getD f.toNat []).length = 4 := k2 _ (by omega)
  unfold putL
  rw [getD_setL _ _ _ _ hf, if_pos rfl, List.set_set, List.set_set]
  have e1 : (ls.getD f.toNat []).set t.toNat (cellM ls f t) = ls.getD f.toNat [] := by
    apply eq_take (by rw [List.length_set])
    intro j hj
    rw [getD_set _ _ _ _ (by omega)]
    split
    · rename_i e; subst e; rfl
    · rfl
  rw [e1]
  apply eq_lists (by rw [List.length_set])
  intro j hj
  rw [getD_setL _ _ _ _ hf]
  split
  · rename_i e; rw [e]
  · rfl
theorem mc_eq (ls : List (List Int)) (f t : Int) : Small (mcL ls f t) ∧ (mcB ls f t = true → mvB (mcL ls f t) = true) := by
  rcases mc_cases ls f t with ⟨h0, h, _⟩ | ⟨_, h, hv, h2, _⟩
  · rw [h, h0]; exact ⟨small_nil, fun e => by cases e⟩
  · rw [h]
    have b := inR_iff.1 h2
    exact ⟨small_set hv _ _ ((mv_shape hv).2.1 f.toNat (by omega)), fun _ => mv_set hv (mv_rows hv (by omega))⟩
theorem ml_eq (ls : List (List Int)) (f : Int) : Small (mlL ls f) ∧ (mlB ls f = true → mvB (mlL ls f) = true) := by
  rcases ml_cases ls f with ⟨h0, h, _⟩ | ⟨_, h, hv, _⟩
  · rw [h, h0]; exact ⟨small_nil, fun e => by cases e⟩
  · rw [h]
    exact ⟨small_set hv _ _ rfl, fun _ => mv_set hv (by decide)⟩
theorem mp_small (ls : List (List Int)) (f t n : Int) : Small (mpL ls f t n) := by
  rcases mp_cases ls f t n with ⟨_, h, _⟩ | ⟨_, h, hv, h2, _⟩
  · rw [h]; exact small_nil
  · rw [h]
    have b := inR_iff.1 h2
    exact small_set hv _ _ (by rw [List.length_set, (mv_shape hv).2.1 f.toNat (by omega)])
set_option maxHeartbeats 4000000 in
theorem FnMemoryGet_w (a : Option Addr) (len cap : Nat) (w : World) (hB : Bytes w w.heap.size a len) (hc : len ≤ cap) (hm : len ≤ maxLen) :
    Calls Try.prog 4 #[.slice a len cap] w fun e w' => e = .returned (.bool true) ∧ Below w.heap.size w w' := by
  have HB := Lib.hid hB
  clear hB
  by_cases hl : (1048576 : Int) < (len : Int)
  · go_enter Try.func4, Try.ntmps4
    go_wp2_with fail
    go_ret
    exact ⟨rfl, Below.refl _ _⟩
  · go_enter Try.func4, Try.ntmps4
    go_wp2_with fail
    refine (DrawMemoryGet_c a len cap w HB.out hc hm).mono ?_
    rintro e w1 ⟨v, ls, f, t, rfl, hd⟩
    have HS := Lib.hid hd.small
    obtain ⟨x1, c1, rfl, hlc, _, hm1⟩ := hd.1.mem
    have HOM1 := Lib.hid hd.1
    have HMM1 := Lib.hid hm1
    have HB1 := Lib.hid hd.2.2.2
    have HZ1 := Lib.hid hd.2.2.2.size
    have HC1 := Lib.hid hlc
    clear hd hm1 hlc
    go_wp2_with fail
    refine (implMemoryGet_c w1.heap.size x1 c1 ls f t _ HMM1.out HS.out).mono ?_
    rintro e w' ⟨rfl, rfl⟩
    go_wp2_with fail
    refine (specMemoryGet_c w1.heap.size x1 c1 ls f t _ HMM1.out HS.out).mono ?_
    rintro e w' ⟨rfl, rfl⟩
    rcases mg_cases ls f t with ⟨h1, ho, hv⟩ | ⟨h1, h2, ho, hv⟩ | ⟨h1, h2, h3, ho, hv⟩ | ⟨h1, h2, h3, ho, hv⟩
    · rw [ho, hv]
      clear h1 ho hv
      go_wp2_with fail
      go_ret
      exact ⟨rfl, HB1.out⟩
    · rw [ho, hv]
      clear h1 h2 ho hv
      go_wp2_with fail
      go_ret
      exact ⟨rfl, HB1.out⟩
    · rw [ho, hv]
      clear h1 h2 h3 ho hv
      go_wp2_with fail
      go_ret
      exact ⟨rfl, HB1.out⟩
    · rw [ho, hv]
      have f0 := (inR_iff.1 h2).1
      have f1 := (inR_iff.1 h2).2
      have t0 := (inR_iff.1 h3).1
      have t1 := (inR_iff.1 h3).2
      obtain ⟨b, off, b', off', rc, ha, hc1, hc2⟩ := mv_cells HMM1.out h1 f0 f1 t0 t1
      subst ha
      have hfl : f < (ls.length : Int) := by rw [(mv_shape h1).1]; omega
      have ht4 : t < 4 := by omega
      obtain ⟨y0, y1⟩ := cellM_bd h1 f0 f1 t0 t1
      clear h1 h2 h3 ho hv
      generalize cellM ls f t = y at *
      go_wp2_with fail
      go_ret
      exact ⟨rfl, HB1.out⟩
set_option maxHeartbeats 4000000 in
theorem FnMemoryPut_w (a : Option Addr) (len cap : Nat) (w : World) (hB : Bytes w w.heap.size a len) (hc : len ≤ cap) (hm : len ≤ maxLen) :
    Calls Try.prog 8 #[.slice a len cap] w fun e w' => e = .returned (.bool true) ∧ Below w.heap.size w w' := by
  have HB := Lib.hid hB
  clear hB
  by_cases hl : (1048576 : Int) < (len : Int)
  · go_enter Try.func8, Try.ntmps8
    go_wp2_with fail
    go_ret
    exact ⟨rfl, Below.refl _ _⟩
  · go_enter Try.func8, Try.ntmps8
    go_wp2_with fail
    refine (DrawMemoryPut_c a len cap w HB.out hc hm).mono ?_
    rintro e w1 ⟨v, ls, f, t, n, rfl, hd⟩
    have HS := Lib.hid hd.small
    obtain ⟨x1, c1, rfl, hlc, _, hm1⟩ := hd.1.mem
    have HOM1 := Lib.hid hd.1
    have HMM1 := Lib.hid hm1
    have HB1 := Lib.hid hd.2.2.2
    have HZ1 := Lib.hid hd.2.2.2.size
    have HC1 := Lib.hid hlc
    clear hd hm1 hlc
    go_wp2_with fail
    have HSL := Lib.hid (mp_small ls f t n)
    refine (implMemoryPut_c w1.heap.size x1 c1 ls f t n _ HMM1.out (by have := HZ1.out; omega) HS.out).mono ?_
    rintro e w2 ⟨v2, rfl, ho2, hg2⟩
    obtain ⟨x2, c2, rfl, _, _, hm2⟩ := ho2.mem
    have HB2 := Lib.hid (below_none HB1.out (Nat.le_refl _) hg2)
    have HZ2 := Lib.hid hg2.size
    have HOM2 := Lib.hid (HOM1.out.gnone hg2)
    have HMM2 := Lib.hid (HMM1.out.gnone hg2 (by have := HZ1.out; omega))
    have HOG2 := Lib.hid ho2
    have HMG2 := Lib.hid hm2
    clear ho2 hm2 hg2
    go_wp2_with fail
    refine (specMemoryPut_c w1.heap.size x1 c1 ls f t n _ HMM2.out (by have := HZ1.out; have := HZ2.out; omega) HS.out).mono ?_
    rintro e w3 ⟨v3, rfl, ho3, hg3⟩
    obtain ⟨x3, c3, rfl, _, _, hm3⟩ := ho3.mem
    have HB3 := Lib.hid (below_none HB2.out (Nat.le_refl _) hg3)
    have HZ3 := Lib.hid hg3.size
    have HOM3 := Lib.hid (HOM2.out.gnone hg3)
    have HMM3 := Lib.hid (HMM2.out.gnone hg3 (by have := HZ1.out; have := HZ2.out; omega))
    have HOG3 := Lib.hid (HOG2.out.gnone hg3)
    have HMG3 := Lib.hid (HMG2.out.gnone hg3 (by have := HZ1.out; have := HZ2.out; omega))
    have HOW3 := Lib.hid ho3
    have HMW3 := Lib.hid hm3
    clear ho3 hm3 hg3
    go_wp2_with fail
    refine (sameMemory_c w2.heap.size w3.heap.size x2 x3 c2 c3 (mpL ls f t n) (mpL ls f t n) _ HMG3.out HMW3.out HSL.out HSL.out).mono ?_
    rintro e w4 ⟨rfl, q4, hw4⟩
    rw [beq_self_eq_true]
    have hg4 : w3.grownBy w4 none := by rw [hw4]; exact drewN_none _ _
    clear hw4
    have HB4 := Lib.hid (below_none HB3.out (Nat.le_refl _) hg4)
    have HZ4 := Lib.hid hg4.size
    have HOM4 := Lib.hid (HOM3.out.gnone hg4)
    have HMM4 := Lib.hid (HMM3.out.gnone hg4 (by have := HZ1.out; have := HZ2.out; have := HZ3.out; omega))
    have HOG4 := Lib.hid (HOG3.out.gnone hg4)
    have HMG4 := Lib.hid (HMG3.out.gnone hg4 (by have := HZ1.out; have := HZ2.out; have := HZ3.out; omega))
    have HOW4 := Lib.hid (HOW3.out.gnone hg4)
    have HMW4 := Lib.hid (HMW3.out.gnone hg4 (by have := HZ1.out; have := HZ2.out; have := HZ3.out; omega))
    clear hg4
    rcases mp_cases ls f t n with ⟨hb, hL, _⟩ | ⟨hb, hL, h1, h2, h3, h4⟩
    · rw [hb]
      have HL := Lib.hid hL
      clear hb hL
      go_wp2_with fail
      refine (sameMemory_c w2.heap.size w3.heap.size x2 x3 c2 c3 (mpL ls f t n) (mpL ls f t n) _ HMG4.out HMW4.out HSL.out HSL.out).mono ?_
      rintro e w5 ⟨rfl, q5, hw5⟩
      rw [beq_self_eq_true]
      have hg5 : w4.grownBy w5 none := by rw [hw5]; exact drewN_none _ _
      clear hw5
      have HB5 := Lib.hid (below_none HB4.out (Nat.le_refl _) hg5)
      have HZ5 := Lib.hid hg5.size
      have HOM5 := Lib.hid (HOM4.out.gnone hg5)
      have HMM5 := Lib.hid (HMM4.out.gnone hg5 (by have := HZ1.out; have := HZ2.out; have := HZ3.out; have := HZ4.out; omega))
      have HOG5 := Lib.hid (HOG4.out.gnone hg5)
      have HMG5 := Lib.hid (HMG4.out.gnone hg5 (by have := HZ1.out; have := HZ2.out; have := HZ3.out; have := HZ4.out; omega))
      have HOW5 := Lib.hid (HOW4.out.gnone hg5)
      have HMW5 := Lib.hid (HMW4.out.gnone hg5 (by have := HZ1.out; have := HZ2.out; have := HZ3.out; have := HZ4.out; omega))
      clear hg5
      go_wp2_with fail
      go_ret
      exact ⟨rfl, HB5.out⟩
    · rw [hb]
      have f0 := (inR_iff.1 h2).1
      have f1 := (inR_iff.1 h2).2
      have t0 := (inR_iff.1 h3).1
      have t1 := (inR_iff.1 h3).2
      have HV := Lib.hid h1
      have HL := Lib.hid hL
      obtain ⟨hok, hget⟩ := putL_ok h1 h2 h3 h4
      have HOK : Hid (mvB (mpL ls f t n) = true) := by show _ = _; rw [hL]; exact hok
      have HGET : Hid (∀ i j : Nat, i < 12 → j < 4 → cellM (mpL ls f t n) i j = if (i : Int) = f ∧ (j : Int) = t then n else cellM ls i j) := by show ∀ _, _; rw [hL]; exact hget
      have HE : Hid (ls.length = 12) := (mv_shape h1).1
      clear h1 h2 h3 h4 hb hL hok hget
      go_wp2_with fail
      go_loop [11] (fun i => ∃ k : Nat, k ≤ 12 ∧ i = .int .i64 k) (fun i => 12 - (intOf i).toNat)
      case atStart => exact ⟨0, by omega, rfl⟩
      case round =>
        obtain ⟨k, hk, rfl⟩ := hrel
        by_cases hlt : k < 12
        · have hlt' : (k : Int) < 12 := by omega
          go_wp2_with fail
          go_loop [12] (fun i => ∃ j : Nat, j ≤ 4 ∧ i = .int .i64 j) (fun i => 4 - (intOf i).toNat)
          case atStart => exact ⟨0, by omega, rfl⟩
          case round =>
            obtain ⟨j, hj, rfl⟩ := hrel
            by_cases hlj : j < 4
            · have hlj' : (j : Int) < 4 := by omega
              obtain ⟨b, off, b', off', rc, ha, hc1, hc2⟩ := mv_cells HMM4.out HV.out (f := (k : Int)) (t := (j : Int)) (by omega) (by omega) (by omega) (by omega)
              subst ha
              rw [Int.toNat_natCast] at hc1 hc2
              have hkl : (k : Int) < (ls.length : Int) := by rw [HE.out]; omega
              have hr : mgB (mpL ls f t n) k j = true ∧ mgV (mpL ls f t n) k j = cellM (mpL ls f t n) k j := by
                have e1 : inR (k : Int) 0 11 = true := inR_iff.2 (by omega)
                have e2 : inR (j : Int) 0 3 = true := inR_iff.2 (by omega)
                have e3 : mgB (mpL ls f t n) k j = true := by unfold mgB; rw [HOK.out, e1, e2]; rfl
                exact ⟨e3, by unfold mgV; rw [e3]; rfl⟩
              have hcell := HGET.out k j hlt hlj
              have HR : Hid (mgB (mpL ls f t n) k j = true ∧ mgV (mpL ls f t n) k j = if (k : Int) = f ∧ (j : Int) = t then n else cellM ls k j) := ⟨hr.1, by rw [hr.2, hcell]⟩
              clear hr hcell
              generalize cellM ls k j = y at *
              by_cases hkf : (k : Int) = f
              · by_cases hjt : (j : Int) = t
                · have q1 : ((k : Int) == f) = true := by simpa using hkf
                  have q2 : ((j : Int) == t) = true := by simpa using hjt
                  have HR2 : Hid (mgV (mpL ls f t n) k j = n) := by show _ = _; rw [HR.out.2, if_pos ⟨hkf, hjt⟩]
                  clear hkf hjt
                  go_wp2_with fail
                  refine (implMemoryGet_c w2.heap.size x2 c2 (mpL ls f t n) k j _ HMG4.out HSL.out).mono ?_
                  rintro e w' ⟨rfl, rfl⟩
                  rw [HR.out.1, HR2.out]
                  go_wp2_with fail
                  go_round
                  case rel => exact ⟨j + 1, by omega, by go_num⟩
                  case measure => simp [intOf]; omega
                · have q1 : ((k : Int) == f) = true := by simpa using hkf
                  have q2 : ((j : Int) == t) = false := by simpa using hjt
                  have HR2 : Hid (mgV (mpL ls f t n) k j = y) := by show _ = _; rw [HR.out.2, if_neg (fun h => hjt h.2)]
                  clear hkf hjt
                  go_wp2_with fail
                  refine (implMemoryGet_c w2.heap.size x2 c2 (mpL ls f t n) k j _ HMG4.out HSL.out).mono ?_
                  rintro e w' ⟨rfl, rfl⟩
                  rw [HR.out.1, HR2.out]
                  go_wp2_with fail
                  go_round
                  case rel => exact ⟨j + 1, by omega, by go_num⟩
                  case measure => simp [intOf]; omega
              · have q1 : ((k : Int) == f) = false := by simpa using hkf
                have HR2 : Hid (mgV (mpL ls f t n) k j = y) := by show _ = _; rw [HR.out.2, if_neg (fun h => hkf h.1)]
                clear hkf
                go_wp2_with fail
                refine (implMemoryGet_c w2.heap.size x2 c2 (mpL ls f t n) k j _ HMG4.out HSL.out).mono ?_
                rintro e w' ⟨rfl, rfl⟩
                rw [HR.out.1, HR2.out]
                go_wp2_with fail
                go_round
                case rel => exact ⟨j + 1, by omega, by go_num⟩
                case measure => simp [intOf]; omega
            · go_wp2_with fail
              go_round
              case rel => exact ⟨k + 1, by omega, by go_num⟩
              case measure => simp [intOf]; omega
        · go_wp2_with fail
          go_ret
          exact ⟨rfl, HB4.out⟩
set_option maxHeartbeats 4000000 in
theorem FnMemoryPutBack_w (a : Option Addr) (len cap : Nat) (w : World) (hB : Bytes w w.heap.size a len) (hc : len ≤ cap) (hm : len ≤ maxLen) :
    Calls Try.prog 7 #[.slice a len cap] w fun e w' => e = .returned (.bool true) ∧ Below w.heap.size w w' := by
  have HB := Lib.hid hB
  clear hB
  by_cases hl : (1048576 : Int) < (len : Int)
  · go_enter Try.func7, Try.ntmps7
    go_wp2_with fail
    go_ret
    exact ⟨rfl, Below.refl _ _⟩
  · go_enter Try.func7, Try.ntmps7
    go_wp2_with fail
    refine (DrawMemoryPut_c a len cap w HB.out hc hm).mono ?_
    rintro e w1 ⟨v, ls, f, t, n, rfl, hd⟩
    have HS := Lib.hid hd.small
    obtain ⟨x1, c1, rfl, hlc, _, hm1⟩ := hd.1.mem
    have HOM1 := Lib.hid hd.1
    have HMM1 := Lib.hid hm1
    have HB1 := Lib.hid hd.2.2.2
    have HZ1 := Lib.hid hd.2.2.2.size
    have HC1 := Lib.hid hlc
    clear hd hm1 hlc
    go_wp2_with fail
    have HSL := Lib.hid (mp_small ls f t n)
    refine (implMemoryPut_c w1.heap.size x1 c1 ls f t n _ HMM1.out (by have := HZ1.out; omega) HS.out).mono ?_
    rintro e w2 ⟨v2, rfl, ho2, hg2⟩
    obtain ⟨x2, c2, rfl, _, _, hm2⟩ := ho2.mem
    have HB2 := Lib.hid (below_none HB1.out (Nat.le_refl _) hg2)
    have HZ2 := Lib.hid hg2.size
    have HOM2 := Lib.hid (HOM1.out.gnone hg2)
    have HMM2 := Lib.hid (HMM1.out.gnone hg2 (by have := HZ1.out; omega))
    have HOG2 := Lib.hid ho2
    have HMG2 := Lib.hid hm2
    clear ho2 hm2 hg2
    go_wp2_with fail
    refine (specMemoryPut_c w1.heap.size x1 c1 ls f t n _ HMM2.out (by have := HZ1.out; have := HZ2.out; omega) HS.out).mono ?_
    rintro e w3 ⟨v3, rfl, ho3, hg3⟩
    obtain ⟨x3, c3, rfl, _, _, hm3⟩ := ho3.mem
    have HB3 := Lib.hid (below_none HB2.out (Nat.le_refl _) hg3)
    have HZ3 := Lib.hid hg3.size
    have HOM3 := Lib.hid (HOM2.out.gnone hg3)
    have HMM3 := Lib.hid (HMM2.out.gnone hg3 (by have := HZ1.out; have := HZ2.out; omega))
    have HOG3 := Lib.hid (HOG2.out.gnone hg3)
    have HMG3 := Lib.hid (HMG2.out.gnone hg3 (by have := HZ1.out; have := HZ2.out; omega))
    have HOW3 := Lib.hid ho3
    have HMW3 := Lib.hid hm3
    clear ho3 hm3 hg3
    go_wp2_with fail
    refine (sameMemory_c w2.heap.size w3.heap.size x2 x3 c2 c3 (mpL ls f t n) (mpL ls f t n) _ HMG3.out HMW3.out HSL.out HSL.out).mono ?_
    rintro e w4 ⟨rfl, q4, hw4⟩
    rw [beq_self_eq_true]
    have hg4 : w3.grownBy w4 none := by rw [hw4]; exact drewN_none _ _
    clear hw4
    have HB4 := Lib.hid (below_none HB3.out (Nat.le_refl _) hg4)
    have HZ4 := Lib.hid hg4.size
    have HOM4 := Lib.hid (HOM3.out.gnone hg4)
    have HMM4 := Lib.hid (HMM3.out.gnone hg4 (by have := HZ1.out; have := HZ2.out; have := HZ3.out; omega))
    have HOG4 := Lib.hid (HOG3.out.gnone hg4)
    have HMG4 := Lib.hid (HMG3.out.gnone hg4 (by have := HZ1.out; have := HZ2.out; have := HZ3.out; omega))
    have HOW4 := Lib.hid (HOW3.out.gnone hg4)
    have HMW4 := Lib.hid (HMW3.out.gnone hg4 (by have := HZ1.out; have := HZ2.out; have := HZ3.out; omega))
    clear hg4
    rcases mp_cases ls f t n with ⟨hb, hL, _⟩ | ⟨hb, hL, h1, h2, h3, h4⟩
    · rw [hb]
      have HL := Lib.hid hL
      clear hb hL
      go_wp2_with fail
      refine (sameMemory_c w2.heap.size w3.heap.size x2 x3 c2 c3 (mpL ls f t n) (mpL ls f t n) _ HMG4.out HMW4.out HSL.out HSL.out).mono ?_
      rintro e w5 ⟨rfl, q5, hw5⟩
      rw [beq_self_eq_true]
      have hg5 : w4.grownBy w5 none := by rw [hw5]; exact drewN_none _ _
      clear hw5
      have HB5 := Lib.hid (below_none HB4.out (Nat.le_refl _) hg5)
      have HZ5 := Lib.hid hg5.size
      have HOM5 := Lib.hid (HOM4.out.gnone hg5)
      have HMM5 := Lib.hid (HMM4.out.gnone hg5 (by have := HZ1.out; have := HZ2.out; have := HZ3.out; have := HZ4.out; omega))
      have HOG5 := Lib.hid (HOG4.out.gnone hg5)
      have HMG5 := Lib.hid (HMG4.out.gnone hg5 (by have := HZ1.out; have := HZ2.out; have := HZ3.out; have := HZ4.out; omega))
      have HOW5 := Lib.hid (HOW4.out.gnone hg5)
      have HMW5 := Lib.hid (HMW4.out.gnone hg5 (by have := HZ1.out; have := HZ2.out; have := HZ3.out; have := HZ4.out; omega))
      clear hg5
      go_wp2_with fail
      go_ret
      exact ⟨rfl, HB5.out⟩
    · rw [hb]
      have f0 := (inR_iff.1 h2).1
      have f1 := (inR_iff.1 h2).2
      have t0 := (inR_iff.1 h3).1
      have t1 := (inR_iff.1 h3).2
      have HV := Lib.hid h1
      obtain ⟨b, off, b', off', rc, ha, hc1, hc2⟩ := mv_cells HMM4.out h1 f0 f1 t0 t1
      subst ha
      have hfl : f < (ls.length : Int) := by rw [(mv_shape h1).1]; omega
      have ht4 : t < 4 := by omega
      have hbd := cellM_bd h1 f0 f1 t0 t1
      obtain ⟨hok, _⟩ := putL_ok h1 h2 h3 h4
      have HBK : Hid (mpB (mpL ls f t n) f t (cellM ls f t) = true ∧ mpL (mpL ls f t n) f t (cellM ls f t) = ls) := by
        have e4 : inR (cellM ls f t) 0 9999 = true := inR_iff.2 hbd
        have e : mpB (putL ls f t n) f t (cellM ls f t) = true := by unfold mpB; rw [hok, h2, h3, e4]; rfl
        refine ⟨by rw [hL]; exact e, ?_⟩
        rw [hL]
        unfold mpL
        rw [e]
        exact putL_back h1 h2 h3
      clear h1 h2 h3 h4 hb hL hok hbd
      generalize hy : cellM ls f t = y at *
      clear hy
      go_wp2_with fail
      refine (implMemoryPut_c w2.heap.size x2 c2 (mpL ls f t n) f t y _ HMG4.out (by have := HZ1.out; have := HZ2.out; have := HZ3.out; have := HZ4.out; omega) HSL.out).mono ?_
      rw [HBK.out.1, HBK.out.2]
      rintro e w5 ⟨v5, rfl, ho5, hg5⟩
      obtain ⟨x5, c5, rfl, _, _, hm5⟩ := ho5.mem
      have HB5 := Lib.hid (below_none HB4.out (Nat.le_refl _) hg5)
      have HZ5 := Lib.hid hg5.size
      have HOM5 := Lib.hid (HOM4.out.gnone hg5)
      have HMM5 := Lib.hid (HMM4.out.gnone hg5 (by have := HZ1.out; have := HZ2.out; have := HZ3.out; have := HZ4.out; omega))
      have HOG5 := Lib.hid (HOG4.out.gnone hg5)
      have HMG5 := Lib.hid (HMG4.out.gnone hg5 (by have := HZ1.out; have := HZ2.out; have := HZ3.out; have := HZ4.out; omega))
      have HOW5 := Lib.hid (HOW4.out.gnone hg5)
      have HMW5 := Lib.hid (HMW4.out.gnone hg5 (by have := HZ1.out; have := HZ2.out; have := HZ3.out; have := HZ4.out; omega))
      have HOX5 := Lib.hid ho5
      have HMX5 := Lib.hid hm5
      clear ho5 hm5 hg5
      go_wp2_with fail
      refine (sameMemory_c w5.heap.size w1.heap.size x5 (some ⟨b, off, none⟩) c5 c1 (ls) (ls) _ HMX5.out HMM5.out HS.out HS.out).mono ?_
      rintro e w6 ⟨rfl, q6, hw6⟩
      rw [beq_self_eq_true]
      have hg6 : w5.grownBy w6 none := by rw [hw6]; exact drewN_none _ _
      clear hw6
      have HB6 := Lib.hid (below_none HB5.out (Nat.le_refl _) hg6)
      have HZ6 := Lib.hid hg6.size
      have HOM6 := Lib.hid (HOM5.out.gnone hg6)
      have HMM6 := Lib.hid (HMM5.out.gnone hg6 (by have := HZ1.out; have := HZ2.out; have := HZ3.out; have := HZ4.out; have := HZ5.out; omega))
      have HOG6 := Lib.hid (HOG5.out.gnone hg6)
      have HMG6 := Lib.hid (HMG5.out.gnone hg6 (by have := HZ1.out; have := HZ2.out; have := HZ3.out; have := HZ4.out; have := HZ5.out; omega))
      have HOW6 := Lib.hid (HOW5.out.gnone hg6)
      have HMW6 := Lib.hid (HMW5.out.gnone hg6 (by have := HZ1.out; have := HZ2.out; have := HZ3.out; have := HZ4.out; have := HZ5.out; omega))
      have HOX6 := Lib.hid (HOX5.out.gnone hg6)
      have HMX6 := Lib.hid (HMX5.out.gnone hg6 (by have := HZ1.out; have := HZ2.out; have := HZ3.out; have := HZ4.out; have := HZ5.out; omega))
      clear hg6
      go_wp2_with fail
      go_ret
      exact ⟨rfl, HB6.out⟩
theorem sameInts_t (a a' : Option Addr) (cap cap' : Nat) (l l' : List Int) (w : World) (e : l = l') (h : Ints w a l) (h' : Ints w a' l') (hm : l.length ≤ 1048576) :
    Calls Try.prog 19 #[.slice a l.length cap, .slice a' l'.length cap'] w fun e w' => e = .returned (.bool true) ∧ ∃ n, w' = w.drewN n := by
  subst e
  have := sameInts_c a a' cap cap' l l w h h' hm hm
  rw [beq_self_eq_true] at this
  exact this
theorem lit4 (W : World) (x0 x1 x2 x3 : Int) : Ints (W.alloc (.cells #[.int .i64 x0, .int .i64 x1, .int .i64 x2, .int .i64 x3] 3)) (some ⟨W.heap.size, 0, none⟩) [x0, x1, x2, x3] := by
  refine .inr ⟨W.heap.size, 0, rfl, fun i hi => ?_⟩
  have hi' : i = 0 ∨ i = 1 ∨ i = 2 ∨ i = 3 := by simp at hi; omega
  rw [Nat.zero_add]
  rcases hi' with rfl | rfl | rfl | rfl <;> exact cell_new _ _ _ _ _ rfl
set_option maxHeartbeats 4000000 in
theorem FnMemoryCopy_w (a : Option Addr) (len cap : Nat) (w : World) (hB : Bytes w w.heap.size a len) (hc : len ≤ cap) (hm : len ≤ maxLen) :
    Calls Try.prog 6 #[.slice a len cap] w fun e w' => e = .returned (.bool true) ∧ Below w.heap.size w w' := by
  have HB := Lib.hid hB
  clear hB
  by_cases hl : (1048576 : Int) < (len : Int)
  · go_enter Try.func6, Try.ntmps6
    go_wp2_with fail
    go_ret
    exact ⟨rfl, Below.refl _ _⟩
  · go_enter Try.func6, Try.ntmps6
    go_wp2_with fail
    refine (DrawMemoryCopy_c a len cap w HB.out hc hm).mono ?_
    rintro e w1 ⟨v, ls, f, t, rfl, hd⟩
    have HS := Lib.hid hd.small
    obtain ⟨x1, c1, rfl, hlc, _, hm1⟩ := hd.1.mem
    have HOM1 := Lib.hid hd.1
    have HMM1 := Lib.hid hm1
    have HB1 := Lib.hid hd.2.2.2
    have HZ1 := Lib.hid hd.2.2.2.size
    have HC1 := Lib.hid hlc
    clear hd hm1 hlc
    go_wp2_with fail
    have HSL := Lib.hid (mc_eq ls f t).1
    refine (implMemoryCopy_c w1.heap.size x1 c1 ls f t _ HMM1.out (by have := HZ1.out; omega) HS.out).mono ?_
    rintro e w2 ⟨v2, rfl, ho2, hg2⟩
    obtain ⟨x2, c2, rfl, _, _, hm2⟩ := ho2.mem
    have HB2 := Lib.hid (below_none HB1.out (Nat.le_refl _) hg2)
    have HZ2 := Lib.hid hg2.size
    have HOM2 := Lib.hid (HOM1.out.gnone hg2)
    have HMM2 := Lib.hid (HMM1.out.gnone hg2 (by have := HZ1.out; omega))
    have HOG2 := Lib.hid ho2
    have HMG2 := Lib.hid hm2
    clear ho2 hm2 hg2
    go_wp2_with fail
    refine (specMemoryCopy_c w1.heap.size x1 c1 ls f t _ HMM2.out (by have := HZ1.out; have := HZ2.out; omega) HS.out).mono ?_
    rintro e w3 ⟨v3, rfl, ho3, hg3⟩
    obtain ⟨x3, c3, rfl, _, _, hm3⟩ := ho3.mem
    have HB3 := Lib.hid (below_none HB2.out (Nat.le_refl _) hg3)
    have HZ3 := Lib.hid hg3.size
    have HOM3 := Lib.hid (HOM2.out.gnone hg3)
    have HMM3 := Lib.hid (HMM2.out.gnone hg3 (by have := HZ1.out; have := HZ2.out; omega))
    have HOG3 := Lib.hid (HOG2.out.gnone hg3)
    have HMG3 := Lib.hid (HMG2.out.gnone hg3 (by have := HZ1.out; have := HZ2.out; omega))
    have HOW3 := Lib.hid ho3
    have HMW3 := Lib.hid hm3
    clear ho3 hm3 hg3
    go_wp2_with fail
    refine (sameMemory_c w2.heap.size w3.heap.size x2 x3 c2 c3 (mcL ls f t) (mcL ls f t) _ HMG3.out HMW3.out HSL.out HSL.out).mono ?_
    rintro e w4 ⟨rfl, q4, hw4⟩
    rw [beq_self_eq_true]
    have hg4 : w3.grownBy w4 none := by rw [hw4]; exact drewN_none _ _
    clear hw4
    have HB4 := Lib.hid (below_none HB3.out (Nat.le_refl _) hg4)
    have HZ4 := Lib.hid hg4.size
    have HOM4 := Lib.hid (HOM3.out.gnone hg4)
    have HMM4 := Lib.hid (HMM3.out.gnone hg4 (by have := HZ1.out; have := HZ2.out; have := HZ3.out; omega))
    have HOG4 := Lib.hid (HOG3.out.gnone hg4)
    have HMG4 := Lib.hid (HMG3.out.gnone hg4 (by have := HZ1.out; have := HZ2.out; have := HZ3.out; omega))
    have HOW4 := Lib.hid (HOW3.out.gnone hg4)
    have HMW4 := Lib.hid (HMW3.out.gnone hg4 (by have := HZ1.out; have := HZ2.out; have := HZ3.out; omega))
    clear hg4
    rcases mc_cases ls f t with ⟨hb, hL, _⟩ | ⟨hb, hL, h1, h2, h3⟩
    · rw [hb]
      have HL := Lib.hid hL
      clear hb hL
      go_wp2_with fail
      refine (sameMemory_c w2.heap.size w3.heap.size x2 x3 c2 c3 (mcL ls f t) (mcL ls f t) _ HMG4.out HMW4.out HSL.out HSL.out).mono ?_
      rintro e w5 ⟨rfl, q5, hw5⟩
      rw [beq_self_eq_true]
      have hg5 : w4.grownBy w5 none := by rw [hw5]; exact drewN_none _ _
      clear hw5
      have HB5 := Lib.hid (below_none HB4.out (Nat.le_refl _) hg5)
      have HZ5 := Lib.hid hg5.size
      have HOM5 := Lib.hid (HOM4.out.gnone hg5)
      have HMM5 := Lib.hid (HMM4.out.gnone hg5 (by have := HZ1.out; have := HZ2.out; have := HZ3.out; have := HZ4.out; omega))
      have HOG5 := Lib.hid (HOG4.out.gnone hg5)
      have HMG5 := Lib.hid (HMG4.out.gnone hg5 (by have := HZ1.out; have := HZ2.out; have := HZ3.out; have := HZ4.out; omega))
      have HOW5 := Lib.hid (HOW4.out.gnone hg5)
      have HMW5 := Lib.hid (HMW4.out.gnone hg5 (by have := HZ1.out; have := HZ2.out; have := HZ3.out; have := HZ4.out; omega))
      clear hg5
      go_wp2_with fail
      go_ret
      exact ⟨rfl, HB5.out⟩
    · have HOK := Lib.hid ((mc_eq ls f t).2 hb)
      rw [hb]
      have f0 := (inR_iff.1 h2).1
      have f1 := (inR_iff.1 h2).2
      have t0 := (inR_iff.1 h3).1
      have t1 := (inR_iff.1 h3).2
      have HE : Hid (ls.length = 12) := (mv_shape h1).1
      have HLG : Hid ((mcL ls f t).length = 12) := by show _ = _; rw [hL, List.length_set]; exact (mv_shape h1).1
      have HROW : Hid (∀ k : Nat, k < 12 → (mcL ls f t).getD k [] = if (k : Int) = t then ls.getD f.toNat [] else ls.getD k []) := by
        intro k hk
        rw [hL, getD_setL _ _ _ _ (by rw [(mv_shape h1).1]; omega)]
        by_cases e : (k : Int) = t
        · rw [if_pos e, if_pos (by omega)]
        · rw [if_neg e, if_neg (by omega)]
      have hfl : f < (ls.length : Int) := by rw [HE.out]; omega
      clear h1 h2 h3 hb hL
      go_wp2_with fail
      go_loopw [10] (fun i wr => ∃ k q : Nat, k ≤ 12 ∧ i = .int .i64 k ∧ wr = w4.drewN q) (fun i _ => 12 - (intOf i).toNat)
      case atStart => exact ⟨0, 0, by omega, rfl, rfl⟩
      case round =>
        obtain ⟨k, q, hk, rfl, rfl⟩ := hrel
        by_cases hlt : k < 12
        · have hlt' : (k : Int) < 12 := by omega
          have hkG : (k : Int) < ((mcL ls f t).length : Int) := by rw [HLG.out]; omega
          have hkM : (k : Int) < (ls.length : Int) := by rw [HE.out]; omega
          by_cases hkt : (k : Int) = t
          · have q1 : ((k : Int) == t) = true := by simpa using hkt
            have q2 : ((k : Int) != t) = false := by simpa using hkt
            have HKT := Lib.hid hkt
            clear hkt
            obtain ⟨ba, oa, ea, _, r1, s1, k1, _, i1⟩ := HMG4.out.at_ (i := k) (by rw [HLG.out]; exact hlt)
            obtain ⟨bb, ob, eb, _, r2, s2, k2, _, i2⟩ := HMM4.out.at_ (i := f.toNat) (by rw [HE.out]; omega)
            have HQ : Hid ((mcL ls f t).getD k [] = ls.getD (f.toNat) []) := by show _ = _; rw [HROW.out k hlt, if_pos HKT.out]
            have J1 := Lib.hid i1.ints
            have J2 := Lib.hid i2.ints
            have J3 := HSL.out.row k
            subst ea eb
            clear i1 i2
            generalize (mcL ls f t).getD k [] = la at *
            generalize ls.getD (f.toNat) [] = lb at *
            go_wp2_with fail
            go_quiet ((go_at_call 19; refine quiet_joined (sameInts_t _ _ _ _ la lb _ HQ.out (by exact J1.out) (by exact J2.out) J3)))
            go_wp2
            go_roundw
            case rel => exact ⟨k + 1, q + nq, by omega, by go_num, by simp⟩
            case measure => simp [intOf]; omega
          · have q1 : ((k : Int) == t) = false := by simpa using hkt
            have q2 : ((k : Int) != t) = true := by simpa using hkt
            have HKT := Lib.hid hkt
            clear hkt
            obtain ⟨ba, oa, ea, _, r1, s1, k1, _, i1⟩ := HMG4.out.at_ (i := k) (by rw [HLG.out]; exact hlt)
            obtain ⟨bb, ob, eb, _, r2, s2, k2, _, i2⟩ := HMM4.out.at_ (i := k) (by rw [HE.out]; omega)
            have HQ : Hid ((mcL ls f t).getD k [] = ls.getD (k) []) := by show _ = _; rw [HROW.out k hlt, if_neg HKT.out]
            have J1 := Lib.hid i1.ints
            have J2 := Lib.hid i2.ints
            have J3 := HSL.out.row k
            subst ea eb
            clear i1 i2
            generalize (mcL ls f t).getD k [] = la at *
            generalize ls.getD (k) [] = lb at *
            go_wp2_with fail
            go_quiet ((go_at_call 19; refine quiet_joined (sameInts_t _ _ _ _ la lb _ HQ.out (by exact J1.out) (by exact J2.out) J3)))
            go_wp2
            go_roundw
            case rel => exact ⟨k + 1, q + nq, by omega, by go_num, by simp⟩
            case measure => simp [intOf]; omega
        · have HV : Hid (Mem (w4.drewN q) w2.heap.size x2 (mcL ls f t)) := HMG4.out.drewN q
          go_wp2_with fail
          refine (implMemoryValid_c w2.heap.size x2 c2 (mcL ls f t) _ HV.out HSL.out).mono ?_
          rintro e w' ⟨rfl, rfl⟩
          rw [HOK.out]
          go_wp2_with fail
          go_ret
          exact ⟨rfl, below_drew HB4.out q⟩
end Go.Proofs.Ytjmlfjpocjmnpaa
