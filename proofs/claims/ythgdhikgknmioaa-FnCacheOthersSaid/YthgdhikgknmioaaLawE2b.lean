/-
  The walk of the law FnCacheOthers on drawn caches: it returns true and writes nothing that was there. No conditions.
-/
import Derived.Test.YthgdhikgknmioaaLawE2
namespace Go.Proofs.Ythgdhikgknmioaa
open Go.RowKit
attribute [local irreducible] Go.wpQuiet

set_option maxHeartbeats 4000000 in
theorem FnCacheOthers_w (a : Option Addr) (len cap : Nat) (w : World) (hB : Bytes w w.heap.size a len) (hc : len ≤ cap) (hm : len ≤ maxLen) :
    Calls Try.prog 7 #[.slice a len cap] w fun e w' => e = .returned (.bool true) ∧ Below w.heap.size w w' := by
  have HBY := Lib.hid hB
  clear hB
  by_cases hlong : 1048576 < len
  · have hlong' : (1048576 : Int) < (len : Int) := by omega
    unfold maxLen at hm
    go_enter Try.func7, Try.ntmps7
    go_wp2_with fail
    go_ret
    exact ⟨rfl, Below.refl _ _⟩
  · have hlong' : ¬ (1048576 : Int) < (len : Int) := by omega
    go_enter Try.func7, Try.ntmps7
    go_wp2_with fail
    refine (DrawCachePut_c a len cap w HBY.out hc hm).mono ?_
    rintro e w1 ⟨v1, cs, x, rfl, ho1, hl1, hb1⟩
    obtain ⟨x1, c1, rfl, hk1, _, hm1⟩ := ho1.caches (fun g e => (ho1.lt g e).2)
    have HHC : Hid (∀ g, Value.ownBlock (.slice x1 cs.length c1) = some g → g < w1.heap.size) := fun g e => (ho1.lt g e).2
    have HKC := Lib.hid hk1
    have HL8 := Lib.hid hl1
    have HS : Hid (cs.length ≤ 1048576) := Nat.le_trans hl1 (by omega)
    have HSL : Hid (∀ x : CachedV, (cpL cs x).length ≤ 1048576) := fun x => cpL_len x
    have HB1 := Lib.hid hb1
    have HZ1 := Lib.hid hb1.size
    have HOC1 := Lib.hid ho1
    have HCC1 := Lib.hid hm1
    clear ho1 hl1 hb1 hk1 hm1
    go_wp2_with fail
    generalize hw2 : World.alloc _ _ = w2
    have hg2 : w1.grownBy w2 none := by rw [← hw2]; exact World.grownBy_alloc _ _ _
    have hb2 : Caches w2 (w1.heap.size + 1) (some ⟨w1.heap.size, 0, none⟩) [x] := by rw [← hw2]; exact box_caches _ _ _
    have hz2 : w1.heap.size + 1 ≤ w2.heap.size := by rw [← hw2]; simp
    have HB2 := Lib.hid (below_none HB1.out (Nat.le_refl _) hg2)
    have HZ2 := Lib.hid hg2.size
    have HOC2 := Lib.hid (HOC1.out.gnone hg2)
    have HCC2 := Lib.hid (HCC1.out.gnone hg2 (by have := HZ1.out; omega))
    have HZ2 := Lib.hid hz2
    have HCb2 := Lib.hid hb2
    clear hg2 hb2 hw2 hz2
    refine (implCachePut_c w1.heap.size x1 c1 cs x _ HCC2.out (by have := HZ1.out; have := HZ2.out; omega) HS.out HKC.out).mono ?_
    rintro e3 w3 ⟨v3, rfl, ho3, hg3⟩
    have hh3 : ∀ g, v3.ownBlock = some g → g < w3.heap.size := fun g e => (ho3.lt g e).2
    obtain ⟨x3, c3, rfl, hk3, _, hm3⟩ := ho3.caches hh3
    have HHG := Lib.hid hh3
    have HKG := Lib.hid hk3
    have HB3 := Lib.hid (below_none HB2.out (Nat.le_refl _) hg3)
    have HZ3 := Lib.hid hg3.size
    have HOC3 := Lib.hid (HOC2.out.gnone hg3)
    have HCC3 := Lib.hid (HCC2.out.gnone hg3 (by have := HZ1.out; have := HZ2.out; omega))
    have HCb3 := Lib.hid (HCb2.out.gnone hg3 (by have := HZ1.out; have := HZ2.out; omega))
    have HOG3 := Lib.hid ho3
    have HCG3 := Lib.hid hm3
    clear ho3 hm3 hg3 hh3 hk3
    obtain ⟨bb0, bb1, bb2, bb3⟩ := HCb3.out.box
    have bbl := World.block_lt_of_cell? _ _ bb0
    go_wp2_with fail
    refine (specCachePut_c w1.heap.size x1 c1 cs x _ HCC3.out (by have := HZ1.out; have := HZ2.out; have := HZ3.out; omega) HS.out).mono ?_
    rintro e4 w4 ⟨v4, rfl, ho4, hg4⟩
    have hh4 : ∀ g, v4.ownBlock = some g → g < w4.heap.size := fun g e => (ho4.lt g e).2
    obtain ⟨x4, c4, rfl, hk4, _, hm4⟩ := ho4.caches hh4
    have HHW := Lib.hid hh4
    have HKW := Lib.hid hk4
    have HB4 := Lib.hid (below_none HB3.out (Nat.le_refl _) hg4)
    have HZ4 := Lib.hid hg4.size
    have HOC4 := Lib.hid (HOC3.out.gnone hg4)
    have HCC4 := Lib.hid (HCC3.out.gnone hg4 (by have := HZ1.out; have := HZ2.out; have := HZ3.out; omega))
    have HOG4 := Lib.hid (HOG3.out.gnone hg4)
    have HCG4 := Lib.hid (HCG3.out.gnone hg4 (by have := HZ1.out; have := HZ2.out; have := HZ3.out; omega))
    have HCb4 := Lib.hid (HCb3.out.gnone hg4 (by have := HZ1.out; have := HZ2.out; have := HZ3.out; omega))
    have HOW4 := Lib.hid ho4
    have HCW4 := Lib.hid hm4
    clear ho4 hm4 hg4 hh4 hk4
    clear bb0 bb1 bb2 bb3 bbl
    rcases hcp : cpB cs x
    · go_wp2_with fail
      refine (sameCache_k w3.heap.size w4.heap.size x3 x4 c3 c4 (cpL cs x) (cpL cs x) _ HCG4.out HCW4.out (by have := HZ1.out; have := HZ2.out; have := HZ3.out; have := HZ4.out; omega) (by have := HZ1.out; have := HZ2.out; have := HZ3.out; have := HZ4.out; omega) (HSL.out x) (HSL.out x) rfl).mono ?_
      rintro e5 w5 ⟨rfl, hg5⟩
      have HB5 := Lib.hid (below_none HB4.out (Nat.le_refl _) hg5)
      have HZ5 := Lib.hid hg5.size
      have HOC5 := Lib.hid (HOC4.out.gnone hg5)
      have HCC5 := Lib.hid (HCC4.out.gnone hg5 (by have := HZ1.out; have := HZ2.out; have := HZ3.out; have := HZ4.out; omega))
      have HOG5 := Lib.hid (HOG4.out.gnone hg5)
      have HCG5 := Lib.hid (HCG4.out.gnone hg5 (by have := HZ1.out; have := HZ2.out; have := HZ3.out; have := HZ4.out; omega))
      have HOW5 := Lib.hid (HOW4.out.gnone hg5)
      have HCW5 := Lib.hid (HCW4.out.gnone hg5 (by have := HZ1.out; have := HZ2.out; have := HZ3.out; have := HZ4.out; omega))
      have HCb5 := Lib.hid (HCb4.out.gnone hg5 (by have := HZ1.out; have := HZ2.out; have := HZ3.out; have := HZ4.out; omega))
      clear hg5
      go_wp2_with fail
      refine (sameCache_k w3.heap.size w4.heap.size x3 x4 c3 c4 (cpL cs x) (cpL cs x) _ HCG5.out HCW5.out (by have := HZ1.out; have := HZ2.out; have := HZ3.out; have := HZ4.out; have := HZ5.out; omega) (by have := HZ1.out; have := HZ2.out; have := HZ3.out; have := HZ4.out; have := HZ5.out; omega) (HSL.out x) (HSL.out x) rfl).mono ?_
      rintro e6 w6 ⟨rfl, hg6⟩
      have HB6 := Lib.hid (below_none HB5.out (Nat.le_refl _) hg6)
      have HZ6 := Lib.hid hg6.size
      have HOC6 := Lib.hid (HOC5.out.gnone hg6)
      have HCC6 := Lib.hid (HCC5.out.gnone hg6 (by have := HZ1.out; have := HZ2.out; have := HZ3.out; have := HZ4.out; have := HZ5.out; omega))
      have HOG6 := Lib.hid (HOG5.out.gnone hg6)
      have HCG6 := Lib.hid (HCG5.out.gnone hg6 (by have := HZ1.out; have := HZ2.out; have := HZ3.out; have := HZ4.out; have := HZ5.out; omega))
      have HOW6 := Lib.hid (HOW5.out.gnone hg6)
      have HCW6 := Lib.hid (HCW5.out.gnone hg6 (by have := HZ1.out; have := HZ2.out; have := HZ3.out; have := HZ4.out; have := HZ5.out; omega))
      have HCb6 := Lib.hid (HCb5.out.gnone hg6 (by have := HZ1.out; have := HZ2.out; have := HZ3.out; have := HZ4.out; have := HZ5.out; omega))
      clear hg6
      go_wp2_with fail
      go_ret
      exact ⟨rfl, HB6.out⟩
    · have HCP : Hid (cpL cs x = keepC cs x ++ [x]) := by show _ = _; rw [cp_put hcp, putC_keep]
      have HCC0 : Hid (ccB cs = true) := by
        have h := hcp
        unfold cpB at h
        rw [Bool.and_eq_true] at h
        exact h.1
      have hl4 : cs.length ≤ 4 := ((ccB_iff cs).1 HCC0.out).1
      clear hcp
      go_wp2_with fail
      refine (sameCache_k w3.heap.size w4.heap.size x3 x4 c3 c4 (cpL cs x) (cpL cs x) _ HCG4.out HCW4.out (by have := HZ1.out; have := HZ2.out; have := HZ3.out; have := HZ4.out; omega) (by have := HZ1.out; have := HZ2.out; have := HZ3.out; have := HZ4.out; omega) (HSL.out x) (HSL.out x) rfl).mono ?_
      rintro e5 w5 ⟨rfl, hg5⟩
      have HB5 := Lib.hid (below_none HB4.out (Nat.le_refl _) hg5)
      have HZ5 := Lib.hid hg5.size
      have HOC5 := Lib.hid (HOC4.out.gnone hg5)
      have HCC5 := Lib.hid (HCC4.out.gnone hg5 (by have := HZ1.out; have := HZ2.out; have := HZ3.out; have := HZ4.out; omega))
      have HOG5 := Lib.hid (HOG4.out.gnone hg5)
      have HCG5 := Lib.hid (HCG4.out.gnone hg5 (by have := HZ1.out; have := HZ2.out; have := HZ3.out; have := HZ4.out; omega))
      have HOW5 := Lib.hid (HOW4.out.gnone hg5)
      have HCW5 := Lib.hid (HCW4.out.gnone hg5 (by have := HZ1.out; have := HZ2.out; have := HZ3.out; have := HZ4.out; omega))
      have HCb5 := Lib.hid (HCb4.out.gnone hg5 (by have := HZ1.out; have := HZ2.out; have := HZ3.out; have := HZ4.out; omega))
      clear hg5
      go_wp2_with fail
      have HLT : Hid (OwnC (w5.alloc (.cells #[] 30)) w5.heap.size (.slice (some ⟨w5.heap.size, 0, none⟩) 0 0) ((cs.take 0).filter fun c => !hit x.e x.p c)) := OwnC.lit w5 _ (Nat.le_refl _)
      have HGT : Hid (w5.grownBy (w5.alloc (.cells #[] 30)) none) := World.grownBy_alloc _ _ _
      have HWB : Hid (w1.heap.size ≤ w5.heap.size) := by show _ ≤ _; have := HZ1.out; have := HZ2.out; have := HZ3.out; have := HZ4.out; have := HZ5.out; omega
      obtain ⟨bb0, bb1, bb2, bb3⟩ := HCb5.out.box
      have HBB := Lib.hid HCb5.out
      have hzb := World.block_lt_of_cell? _ _ bb0
      have HZB : Hid (w1.heap.size < w5.heap.size) := hzb
      go_loopw [9, 10] (fun v i wr => ∃ k : Nat, k ≤ cs.length ∧ i = .int .i64 k ∧ w5.grownBy wr none ∧ Hid (OwnC wr w5.heap.size v ((cs.take k).filter fun c => !hit x.e x.p c) ∧ v ≠ .slice none 0 0)) (fun _ i _ => cs.length - (intOf i).toNat)
      case atStart => exact ⟨0, Nat.zero_le _, rfl, HGT.out, HLT.out, fun e => by cases e⟩
      case round =>
        obtain ⟨k, hk, rfl, hg, HO⟩ := hrel
        have x0 := hg.cell bb0 (by simp)
        have x1' := hg.cell bb1 (by simp)
        have x2' := hg.cell bb2 (by simp)
        have x3' := hg.cell bb3 (by simp)
        by_cases hlt : k < cs.length
        · obtain ⟨b, off, rfl, hb, q0, q1, q2, q3⟩ := HCC5.out.at4 HWB.out hg hlt
          have HG := Lib.hid hg
          have HE := Lib.hid (filter_take (q := fun c => !hit x.e x.p c) hlt)
          have HL := Lib.hid (filter_take_le (cs := cs) (q := fun c => !hit x.e x.p c) (k := k))
          clear hg
          generalize cs.getD k c0V = c at *
          have HH : Hid (hit x.e x.p c = ((c.e == x.e) && (c.p == x.p))) := rfl
          go_wp2_with fail
          have g0 : ∀ p : GW wr, p.v.cell? ⟨b, off + k * 4, none⟩ = some (.int .i64 c.e) := fun p => p.h.cell q0 (by simp)
          have g1 : ∀ p : GW wr, p.v.cell? ⟨b, off + k * 4 + 1, none⟩ = some (.int .i64 c.p) := fun p => p.h.cell q1 (by simp)
          have k0 : ∀ p : GW wr, p.v.cell? ⟨w1.heap.size, 0, none⟩ = some (.int .i64 x.e) := fun p => p.h.cell x0 (by simp)
          have k1 : ∀ p : GW wr, p.v.cell? ⟨w1.heap.size, 1, none⟩ = some (.int .i64 x.p) := fun p => p.h.cell x1' (by simp)
          clear x0 x1' x2' x3' bb0 bb1 bb2 bb3
          rcases he : (c.e == x.e)
          · have he2 : ¬ (c.e = x.e) := by simpa using he
            have HHV : Hid ((!hit x.e x.p c) = true) := by show _ = _; rw [HH.out, he]; rfl
            (refine wp_region_quiet_gw (by kernel_rfl) (by kernel_rfl) ?_; (repeat (quiet_step (fail))); refine wpQuiet_nil ?_; intro wq hw'; obtain ⟨⟨_, hgq⟩, hw''⟩ := hw'; subst hw'')
            have HQ := Lib.hid (none_trans HG.out hgq)
            have d0 := hgq.cell q0 (by simp)
            have d1 := hgq.cell q1 (by simp)
            have d2 := hgq.cell q2 (by simp)
            have d3 := hgq.cell q3 (by simp)
            have HO2 := Lib.hid (HO.out.1.gnone hgq)
            have hsz2 := HQ.out.size
            clear hgq q0 q1 q2 q3 g0 g1 k0 k1 he2
            go_wp2_with (at_builtin; refine wpList_appC rfl _ _ rfl w5.heap.size _ _ rfl (HO2.out.gnone (World.grownBy_alloc _ _ _)) (wq.heap.size + 1) wq.heap.size 0 1 1 [c] rfl rfl (box_caches _ _ _) ?c1 ?c2 ?_)
            case c1 => have := HL.out; have := HS.out; simp; omega
            case c2 => simp; omega
            intro v' w' ho hg
            have HF : Hid (w5.grownBy w' none ∧ OwnC w' w5.heap.size v' ((cs.take (k + 1)).filter fun c => !hit x.e x.p c) ∧ v' ≠ .slice none 0 0) := by
              have hal : wq.grownBy (wq.alloc (.cells #[.int .i64 c.e, .int .i64 c.p, .int .i64 c.f, .bool c.b] 30)) none := World.grownBy_alloc _ _ _
              refine ⟨none_row (none_trans HQ.out hal) hg (fun j ej => (HO2.out.lt j ej).1), ?_⟩
              rw [HE.out, HHV.out]
              exact ⟨ho, own_some ho (by simp)⟩
            clear ho hg
            go_wp2_with fail
            go_roundw
            case rel => exact ⟨k + 1, by omega, by go_num, HF.out.1, HF.out.2.1, HF.out.2.2⟩
            case measure => simp [intOf]; omega
          · have he2 : c.e = x.e := by simpa using he
            rcases hp : (c.p == x.p)
            · have hp2 : ¬ (c.p = x.p) := by simpa using hp
              have HHV : Hid ((!hit x.e x.p c) = true) := by show _ = _; rw [HH.out, he, hp]; rfl
              (refine wp_region_quiet_gw (by kernel_rfl) (by kernel_rfl) ?_; (repeat (quiet_step (fail))); refine wpQuiet_nil ?_; intro wq hw'; obtain ⟨⟨_, hgq⟩, hw''⟩ := hw'; subst hw'')
              have HQ := Lib.hid (none_trans HG.out hgq)
              have d0 := hgq.cell q0 (by simp)
              have d1 := hgq.cell q1 (by simp)
              have d2 := hgq.cell q2 (by simp)
              have d3 := hgq.cell q3 (by simp)
              have HO2 := Lib.hid (HO.out.1.gnone hgq)
              have hsz2 := HQ.out.size
              clear hgq q0 q1 q2 q3 g0 g1 k0 k1 he2 hp2
              go_wp2_with (at_builtin; refine wpList_appC rfl _ _ rfl w5.heap.size _ _ rfl (HO2.out.gnone (World.grownBy_alloc _ _ _)) (wq.heap.size + 1) wq.heap.size 0 1 1 [c] rfl rfl (box_caches _ _ _) ?c1 ?c2 ?_)
              case c1 => have := HL.out; have := HS.out; simp; omega
              case c2 => simp; omega
              intro v' w' ho hg
              have HF : Hid (w5.grownBy w' none ∧ OwnC w' w5.heap.size v' ((cs.take (k + 1)).filter fun c => !hit x.e x.p c) ∧ v' ≠ .slice none 0 0) := by
                have hal : wq.grownBy (wq.alloc (.cells #[.int .i64 c.e, .int .i64 c.p, .int .i64 c.f, .bool c.b] 30)) none := World.grownBy_alloc _ _ _
                refine ⟨none_row (none_trans HQ.out hal) hg (fun j ej => (HO2.out.lt j ej).1), ?_⟩
                rw [HE.out, HHV.out]
                exact ⟨ho, own_some ho (by simp)⟩
              clear ho hg
              go_wp2_with fail
              go_roundw
              case rel => exact ⟨k + 1, by omega, by go_num, HF.out.1, HF.out.2.1, HF.out.2.2⟩
              case measure => simp [intOf]; omega
            · have hp2 : c.p = x.p := by simpa using hp
              have HHV : Hid ((!hit x.e x.p c) = false) := by show _ = _; rw [HH.out, he, hp]; rfl
              (refine wp_region_quiet_gw (by kernel_rfl) (by kernel_rfl) ?_; (repeat (quiet_step (fail))); refine wpQuiet_nil ?_; intro wq hw'; obtain ⟨⟨_, hgq⟩, hw''⟩ := hw'; subst hw'')
              have HQ := Lib.hid hgq
              clear hgq q0 q1 q2 q3 g0 g1 k0 k1
              go_wp2_with fail
              go_roundw
              case rel => exact ⟨k + 1, by omega, by go_num, none_trans HG.out HQ.out, by rw [HE.out, HHV.out]; simpa using HO.out.1.gnone HQ.out, HO.out.2⟩
              case measure => simp [intOf]; omega
        · have hkk : k = cs.length := by omega
          have ho := HO.out.1
          have hnn := HO.out.2
          rw [hkk, List.take_length] at ho
          clear hkk HO
          have HKF := Lib.hid (keepC_filter cs x)
          have HLL : Hid ((cs.filter fun c => !hit x.e x.p c).length ≤ 4) := Nat.le_trans (List.length_filter_le _ _) hl4
          generalize (cs.filter fun c => !hit x.e x.p c) = L at *
          rcases ho.cases with ⟨e, _⟩ | ⟨g, cp, rfl, hg1, hg2, hlc, hcm'⟩
          · exact absurd e hnn
          have HO := Lib.hid ho
          have HG := Lib.hid hg
          have hzs := hg.size
          have HZS : Hid (w5.heap.size ≤ wr.heap.size) := hg.size
          have HGG : Hid (w5.heap.size ≤ g) := hg1
          clear ho hg hnn bb0 bb1 bb2 bb3
          by_cases h4 : L.length = 4
          · obtain ⟨D, hD⟩ : ∃ D, L.drop 1 = D := ⟨_, rfl⟩
            have HKD : Hid (cpL cs x = D ++ [x]) := by show _ = _; rw [HCP.out, HKF.out, if_pos (by omega), hD]
            have HDD := Lib.hid hD
            have HDL : Hid ((D ++ [x]).length = 4) := by show _ = _; rw [← hD]; simp; omega
            clear hD
            have HL4 := Lib.hid h4
            have hcp1 : ¬ cp = 1 := by omega
            have hcp2 : (1 : Int) ≤ cp := by omega
            obtain ⟨d, rfl⟩ : ∃ d, cp = d + 1 := ⟨cp - 1, by omega⟩
            rw [h4]
            clear h4
            go_wp2_with (at_builtin; refine wpList_appC4 rfl (.tmp 90) (.tmp 92) rfl w5.heap.size g (d + 1) L (HO.out.gnone (World.grownBy_alloc _ _ _)) 3 d rfl ?c1 rfl (wr.heap.size + 1) wr.heap.size x rfl (box_caches _ _ _) ?c2 D HDD.out ?_)
            case c1 => rw [HL4.out]
            case c2 => rw [HL4.out]; omega
            intro b' off' c' wz hcz hgz
            have HF : Hid (w5.grownBy wz none) := none_row (none_alloc HG.out _) hgz (fun j ej => by have := Option.some.inj ej; have := HGG.out; omega)
            have HCZ := Lib.hid hcz
            clear hcz hgz
            go_wp2_with fail
            have hsc := sameCache_k w3.heap.size wz.heap.size x3 (some ⟨b', off', none⟩) c3 c' (cpL cs x) (D ++ [x]) wz (HCG5.out.gnone HF.out (by have := HZ1.out; have := HZ2.out; have := HZ3.out; have := HZ4.out; have := HZ5.out; omega)) HCZ.out (Nat.le_trans (by have := HZ1.out; have := HZ2.out; have := HZ3.out; have := HZ4.out; have := HZ5.out; omega) HF.out.size) (Nat.le_refl _) (HSL.out x) (by rw [HDL.out]; omega) HKD.out
            rw [HDL.out] at hsc
            refine hsc.mono ?_
            clear hsc
            rintro e w' ⟨rfl, hg⟩
            have HZ : Hid (Below w.heap.size w w') := below_none HB5.out (Nat.le_refl _) (none_trans HF.out hg)
            clear hg
            go_wp2_with fail
            go_ret
            exact ⟨rfl, HZ.out⟩
          · have HKD : Hid (cpL cs x = L ++ [x]) := by show _ = _; rw [HCP.out, HKF.out, if_neg (by have := HLL.out; omega)]
            have HDL : Hid ((L ++ [x]).length = L.length + 1) := by show _ = _; simp
            have hb4 : ((L.length : Int) == 4) = false := beq_eq_false_iff_ne.2 (by omega)
            go_wp2_with (at_builtin; refine wpList_appC rfl (.tmp 90) (.tmp 92) rfl w5.heap.size (.slice (some ⟨g, 0, none⟩) L.length cp) L rfl (HO.out.gnone (World.grownBy_alloc _ _ _)) (wr.heap.size + 1) wr.heap.size 0 1 1 [x] rfl rfl (box_caches _ _ _) ?c1 ?c2 ?_)
            case c1 => have := HLL.out; first | omega | (simp; omega)
            case c2 => first | omega | (simp; omega)
            intro v' wz ho hgz
            have HF : Hid (w5.grownBy wz none) := none_row (none_alloc HG.out _) hgz (fun j ej => by have := (HO.out.lt j ej).1; omega)
            obtain ⟨x9, c9, rfl, _, _, hcz⟩ := ho.caches (fun g e => (ho.lt g e).2)
            have HCZ := Lib.hid hcz
            clear hcz hgz ho
            go_wp2_with fail
            have hsc := sameCache_k w3.heap.size wz.heap.size x3 x9 c3 c9 (cpL cs x) (L ++ [x]) wz (HCG5.out.gnone HF.out (by have := HZ1.out; have := HZ2.out; have := HZ3.out; have := HZ4.out; have := HZ5.out; omega)) HCZ.out (Nat.le_trans (by have := HZ1.out; have := HZ2.out; have := HZ3.out; have := HZ4.out; have := HZ5.out; omega) HF.out.size) (Nat.le_refl _) (HSL.out x) (by rw [HDL.out]; have := HLL.out; omega) HKD.out
            rw [HDL.out] at hsc
            refine hsc.mono ?_
            clear hsc
            rintro e w' ⟨rfl, hg⟩
            have HZ : Hid (Below w.heap.size w w') := below_none HB5.out (Nat.le_refl _) (none_trans HF.out hg)
            clear hg
            go_wp2_with fail
            go_ret
            exact ⟨rfl, HZ.out⟩
end Go.Proofs.Ythgdhikgknmioaa
