/-
  The walk of the law on cleared frames: it returns true and writes nothing that was there. No conditions.
-/
import Derived.Test.YtjmlfjpocjmnpaaLawM2
namespace Go.Proofs.Ytjmlfjpocjmnpaa
open Go.RowKit

theorem _root_.Go.World.grownBy.trans_alloc {a b : World} (h : a.grownBy b none) (o : Obj) : a.grownBy (b.alloc o) none := none_alloc h o
def VLit4 (u : Value) (w : World) : Prop := ∃ b, u = .slice (some ⟨b, 0, none⟩) 4 4 ∧ Ints w (some ⟨b, 0, none⟩) [0, 0, 0, 0]
theorem VLit4.kept {u : Value} {w w' : World} (h : VLit4 u w) (hg : w.grownBy w' none) : VLit4 u w' := by
  obtain ⟨b, h1, h2⟩ := h
  exact ⟨b, h1, h2.gnone hg⟩
structure InvC (wr : World) (f k : Int) (ba oa n c : Nat) (la : List Int) (r1 : Option Addr) (s1 : Nat) (x0 x1 x2 x3 x6 x7 x8 x10 x11 x12 x13 x14 x15 x16 x17 x18 x19 x20 x21 x22 x23 x24 x25 x26 x27 x28 x29 x30 x31 x32 x33 x34 x35 x36 x37 x38 x39 x40 x41 x42 x43 x44 x45 x46 x47 x48 x49 x50 x51 x52 x53 x54 : Value) (L : Array Bool) (act : Act) (w : World) : Prop where
  ex : ∃ u55 u56 u57 u58 u59 u60 u61 u62 u63 u64 u65 u66 u67 u68 u69 u70 u71 u72 u73 u74 u75 u76 u77 u78 u79 u80 u81 u82 u83 : Value, act = ⟨#[x0, x1, x2, x3, .int .i64 f, .slice (some ⟨ba, oa, none⟩) n c, x6, x7, x8, .int .i64 k, x10, x11, x12, x13, x14, x15, x16, x17, x18, x19, x20, x21, x22, x23, x24, x25, x26, x27, x28, x29, x30, x31, x32, x33, x34, x35, x36, x37, x38, x39, x40, x41, x42, x43, x44, x45, x46, x47, x48, x49, x50, x51, x52, x53, x54, u55, u56, u57, u58, u59, u60, u61, u62, u63, u64, u65, u66, u67, u68, u69, u70, u71, u72, u73, u74, u75, u76, u77, u78, u79, u80, u81, u82, u83, undef, undef], []⟩ ∧ wr.grownBy w none ∧
    (L.getD 0 false = true → u55 = .int .i64 k) ∧
    (L.getD 1 false = true → u56 = .int .i64 f) ∧
    (L.getD 2 false = true → u57 = .bool true) ∧
    (L.getD 3 false = true → u58 = .bool true) ∧
    (L.getD 4 false = true → u59 = .slice (some ⟨ba, oa, none⟩) n c) ∧
    (L.getD 5 false = true → u60 = .int .i64 k) ∧
    (L.getD 6 false = true → u61 = .pointer (some ⟨ba, oa + k.toNat, none⟩)) ∧
    (L.getD 7 false = true → u62 = .slice r1 la.length s1) ∧
    (L.getD 8 false = true → VLit4 u63 w) ∧
    (L.getD 9 false = true → u64 = .bool true) ∧
    (L.getD 10 false = true → u65 = .bool false) ∧
    (L.getD 11 false = true → u66 = .bool false) ∧
    (L.getD 12 false = true → u67 = .bool false) ∧
    (L.getD 13 false = true → u68 = .int .i64 k) ∧
    (L.getD 14 false = true → u69 = .int .i64 f) ∧
    (L.getD 15 false = true → u70 = .bool false) ∧
    (L.getD 16 false = true → u71 = .bool false) ∧
    (L.getD 17 false = true → u72 = undef) ∧
    (L.getD 18 false = true → u73 = undef) ∧
    (L.getD 19 false = true → u74 = undef) ∧
    (L.getD 20 false = true → u75 = undef) ∧
    (L.getD 21 false = true → u76 = undef) ∧
    (L.getD 22 false = true → u77 = undef) ∧
    (L.getD 23 false = true → u78 = undef) ∧
    (L.getD 24 false = true → u79 = undef) ∧
    (L.getD 25 false = true → u80 = undef) ∧
    (L.getD 26 false = true → u81 = undef) ∧
    (L.getD 27 false = true → u82 = .bool false) ∧
    (L.getD 28 false = true → u83 = .bool false)
set_option maxHeartbeats 4000000 in
theorem FnMemoryClear_w (a : Option Addr) (len cap : Nat) (w : World) (hB : Bytes w w.heap.size a len) (hc : len ≤ cap) (hm : len ≤ maxLen) :
    Calls Try.prog 5 #[.slice a len cap] w fun e w' => e = .returned (.bool true) ∧ Below w.heap.size w w' := by
  have HB := Lib.hid hB
  clear hB
  by_cases hl : (1048576 : Int) < (len : Int)
  · go_enter Try.func5, Try.ntmps5
    go_wp2_with fail
    go_ret
    exact ⟨rfl, Below.refl _ _⟩
  · go_enter Try.func5, Try.ntmps5
    go_wp2_with fail
    refine (DrawMemoryClear_c a len cap w HB.out hc hm).mono ?_
    rintro e w1 ⟨v, ls, f, rfl, hd⟩
    have HS := Lib.hid hd.small
    obtain ⟨x1, c1, rfl, hlc, _, hm1⟩ := hd.1.mem
    have HOM1 := Lib.hid hd.1
    have HMM1 := Lib.hid hm1
    have HB1 := Lib.hid hd.2.2.2
    have HZ1 := Lib.hid hd.2.2.2.size
    have HC1 := Lib.hid hlc
    clear hd hm1 hlc
    go_wp2_with fail
    have HSL := Lib.hid (ml_eq ls f).1
    refine (implMemoryClear_c w1.heap.size x1 c1 ls f _ HMM1.out (by have := HZ1.out; omega) HS.out).mono ?_
    rintro e w2 ⟨v2, rfl, ho2, hg2⟩
    obtain ⟨x2, c2, rfl, _, _, hm2⟩ := ho2.mem
    have HB2 := Lib.hid (below_none HB1.out (Nat.le_refl _) hg2)
    have HZ2 := Lib.hid hg2.size
    have HOM2 := Lib.hid (HOM1.out.gnone hg2)
    have HMM2 := Lib.hid (HMM1.out.gnone hg2 (by have := HZ1.out; omega))
    have HOG2 := Lib.hid ho2
    have HMG2 := Lib.hid hm2
    clear ho2 hm2 hg2
    go_wp2_with fail
    refine (specMemoryClear_c w1.heap.size x1 c1 ls f _ HMM2.out (by have := HZ1.out; have := HZ2.out; omega) HS.out).mono ?_
    rintro e w3 ⟨v3, rfl, ho3, hg3⟩
    obtain ⟨x3, c3, rfl, _, _, hm3⟩ := ho3.mem
    have HB3 := Lib.hid (below_none HB2.out (Nat.le_refl _) hg3)
    have HZ3 := Lib.hid hg3.size
    have HOM3 := Lib.hid (HOM2.out.gnone hg3)
    have HMM3 := Lib.hid (HMM2.out.gnone hg3 (by have := HZ1.out; have := HZ2.out; omega))
    have HOG3 := Lib.hid (HOG2.out.gnone hg3)
    have HMG3 := Lib.hid (HMG2.out.gnone hg3 (by have := HZ1.out; have := HZ2.out; omega))
    have HOW3 := Lib.hid ho3
    have HMW3 := Lib.hid hm3
    clear ho3 hm3 hg3
    go_wp2_with fail
    refine (sameMemory_c w2.heap.size w3.heap.size x2 x3 c2 c3 (mlL ls f) (mlL ls f) _ HMG3.out HMW3.out HSL.out HSL.out).mono ?_
    rintro e w4 ⟨rfl, q4, hw4⟩
    rw [beq_self_eq_true]
    have hg4 : w3.grownBy w4 none := by rw [hw4]; exact drewN_none _ _
    clear hw4
    have HB4 := Lib.hid (below_none HB3.out (Nat.le_refl _) hg4)
    have HZ4 := Lib.hid hg4.size
    have HOM4 := Lib.hid (HOM3.out.gnone hg4)
    have HMM4 := Lib.hid (HMM3.out.gnone hg4 (by have := HZ1.out; have := HZ2.out; have := HZ3.out; omega))
    have HOG4 := Lib.hid (HOG3.out.gnone hg4)
    have HMG4 := Lib.hid (HMG3.out.gnone hg4 (by have := HZ1.out; have := HZ2.out; have := HZ3.out; omega))
    have HOW4 := Lib.hid (HOW3.out.gnone hg4)
    have HMW4 := Lib.hid (HMW3.out.gnone hg4 (by have := HZ1.out; have := HZ2.out; have := HZ3.out; omega))
    clear hg4
    rcases ml_cases ls f with ⟨hb, hL, _⟩ | ⟨hb, hL, h1, h2⟩
    · rw [hb]
      have HL := Lib.hid hL
      clear hb hL
      go_wp2_with fail
      refine (sameMemory_c w2.heap.size w3.heap.size x2 x3 c2 c3 (mlL ls f) (mlL ls f) _ HMG4.out HMW4.out HSL.out HSL.out).mono ?_
      rintro e w5 ⟨rfl, q5, hw5⟩
      rw [beq_self_eq_true]
      have hg5 : w4.grownBy w5 none := by rw [hw5]; exact drewN_none _ _
      clear hw5
      have HB5 := Lib.hid (below_none HB4.out (Nat.le_refl _) hg5)
      have HZ5 := Lib.hid hg5.size
      have HOM5 := Lib.hid (HOM4.out.gnone hg5)
      have HMM5 := Lib.hid (HMM4.out.gnone hg5 (by have := HZ1.out; have := HZ2.out; have := HZ3.out; have := HZ4.out; omega))
      have HOG5 := Lib.hid (HOG4.out.gnone hg5)
      have HMG5 := Lib.hid (HMG4.out.gnone hg5 (by have := HZ1.out; have := HZ2.out; have := HZ3.out; have := HZ4.out; omega))
      have HOW5 := Lib.hid (HOW4.out.gnone hg5)
      have HMW5 := Lib.hid (HMW4.out.gnone hg5 (by have := HZ1.out; have := HZ2.out; have := HZ3.out; have := HZ4.out; omega))
      clear hg5
      go_wp2_with fail
      go_ret
      exact ⟨rfl, HB5.out⟩
    · have HOK := Lib.hid ((ml_eq ls f).2 hb)
      rw [hb]
      have f0 := (inR_iff.1 h2).1
      have f1 := (inR_iff.1 h2).2
      have HE : Hid (ls.length = 12) := (mv_shape h1).1
      have HLG : Hid ((mlL ls f).length = 12) := by show _ = _; rw [hL, List.length_set]; exact (mv_shape h1).1
      have HROW : Hid (∀ k : Nat, k < 12 → (mlL ls f).getD k [] = if (k : Int) = f then [0, 0, 0, 0] else ls.getD k []) := by
        intro k hk
        rw [hL, getD_setL _ _ _ _ (by rw [(mv_shape h1).1]; omega)]
        by_cases e : (k : Int) = f
        · rw [if_pos e, if_pos (by omega)]
        · rw [if_neg e, if_neg (by omega)]
      clear h1 h2 hb hL
      have HZG : Hid (w2.heap.size ≤ w4.heap.size ∧ w1.heap.size ≤ w4.heap.size) := ⟨by have := HZ1.out; have := HZ2.out; have := HZ3.out; have := HZ4.out; omega, by have := HZ1.out; have := HZ2.out; have := HZ3.out; have := HZ4.out; omega⟩
      go_wp2_with fail
      go_loopw [9] (fun i wr => ∃ k : Nat, k ≤ 12 ∧ i = .int .i64 k ∧ w4.grownBy wr none) (fun i _ => 12 - (intOf i).toNat)
      case atStart => exact ⟨0, by omega, rfl, grown_refl _ _⟩
      case round =>
        obtain ⟨k, hk, rfl, hg⟩ := hrel
        have HG := Lib.hid hg
        clear hg
        by_cases hlt : k < 12
        · have hlt' : (k : Int) < 12 := by omega
          have hkG : (k : Int) < ((mlL ls f).length : Int) := by rw [HLG.out]; omega
          have hkM : (k : Int) < (ls.length : Int) := by rw [HE.out]; omega
          obtain ⟨ba, oa, ea, hba, r1, s1, k1, _, i1⟩ := (HMG4.out.gnone HG.out HZG.out.1).at_ (i := k) (by rw [HLG.out]; exact hlt)
          have J3 := HSL.out.row k
          by_cases hkt : (k : Int) = f
          · have q1 : ((k : Int) == f) = true := by simpa using hkt
            have q2 : ((k : Int) != f) = false := by simpa using hkt
            have HQ : Hid ((mlL ls f).getD k [] = [0, 0, 0, 0]) := by show _ = _; rw [HROW.out k hlt, if_pos hkt]
            have J1 := Lib.hid i1.ints
            subst ea
            clear i1 hkt
            generalize (mlL ls f).getD k [] = la at *
            have HK1 := Lib.hid k1
            clear k1
            go_wp2_with fail
            refine wp_region_inv (by kernel_rfl) (InvC wr f k ba oa (mlL ls f).length c2 la r1 s1 (.slice a len cap) undef u2 (.slice x1 ls.length c1) (.bool true) (.slice x3 (mlL ls f).length c3) (.bool true) (.slice a len cap) (.int .i64 len) (.bool false) (.tuple #[.slice x1 ls.length c1, .int .i64 f]) (.slice a len cap) (.tuple #[.slice x1 ls.length c1, .int .i64 f]) (.slice x1 ls.length c1) (.int .i64 f) (.tuple #[.slice (some ⟨ba, oa, none⟩) (mlL ls f).length c2, .bool true]) (.slice x1 ls.length c1) (.int .i64 f) (.tuple #[.slice (some ⟨ba, oa, none⟩) (mlL ls f).length c2, .bool true]) (.slice (some ⟨ba, oa, none⟩) (mlL ls f).length c2) (.bool true) (.tuple #[.slice x3 (mlL ls f).length c3, .bool true]) (.slice x1 ls.length c1) (.int .i64 f) (.tuple #[.slice x3 (mlL ls f).length c3, .bool true]) (.slice x3 (mlL ls f).length c3) (.bool true) (.bool true) (.bool true) (.bool false) (.bool false) (.slice (some ⟨ba, oa, none⟩) (mlL ls f).length c2) (.slice x3 (mlL ls f).length c3) (.bool true) (.bool false) (.bool false) (.bool false) (.bool true) (.bool false) (.bool false) undef undef undef undef undef undef undef undef (.int .i64 k) (.bool true) u53 u54) (by kernel_rfl) ?_ ?_ ?_
            · exact ⟨_, _, _, _, _, _, _, _, _, _, _, _, _, _, _, _, _, _, _, _, _, _, _, _, _, _, _, _, _, rfl, none_drewN (grown_refl _ _) 1, by simp, by simp, by simp, by simp, by simp, by simp, by simp, by simp, by simp, by simp, by simp, by simp, by simp, by simp, by simp, by simp, by simp, by simp, by simp, by simp, by simp, by simp, by simp, by simp, by simp, by simp, by simp, by simp, by simp⟩
            · have k1 := HK1.out
              rintro L act W i hs ⟨u55, u56, u57, u58, u59, u60, u61, u62, u63, u64, u65, u66, u67, u68, u69, u70, u71, u72, u73, u74, u75, u76, u77, u78, u79, u80, u81, u82, u83, rfl, hG, p0, p1, p2, p3, p4, p5, p6, p7, p8, p9, p10, p11, p12, p13, p14, p15, p16, p17, p18, p19, p20, p21, p22, p23, p24, p25, p26, p27, p28⟩ hi hl hd
              have hi' : i < 29 := hi
              have hc' : i = 0 ∨ i = 1 ∨ i = 2 ∨ i = 3 ∨ i = 4 ∨ i = 5 ∨ i = 6 ∨ i = 7 ∨ i = 8 ∨ i = 9 ∨ i = 10 ∨ i = 11 ∨ i = 12 ∨ i = 13 ∨ i = 14 ∨ i = 15 ∨ i = 16 ∨ i = 17 ∨ i = 18 ∨ i = 19 ∨ i = 20 ∨ i = 21 ∨ i = 22 ∨ i = 23 ∨ i = 24 ∨ i = 25 ∨ i = 26 ∨ i = 27 ∨ i = 28 := by omega
              rcases hc' with rfl | rfl | rfl | rfl | rfl | rfl | rfl | rfl | rfl | rfl | rfl | rfl | rfl | rfl | rfl | rfl | rfl | rfl | rfl | rfl | rfl | rfl | rfl | rfl | rfl | rfl | rfl | rfl | rfl
              · have hLf : L.getD 0 false = false := getD_false hl (by rw [hs]; decide)
                have hsz : 0 < L.size := by rw [hs]; decide
                have OL : ∀ j, j ≠ 0 → (L.setIfInBounds 0 true).getD j false = true → L.getD j false = true := fun j hj h => by rw [getD_setB _ _ _ _ hsz, if_neg hj] at h; exact h
                have ST0 := p0
                have ST1 := p1
                have ST2 := p2
                have ST3 := p3
                have ST4 := p4
                have ST5 := p5
                have ST6 := p6
                have ST7 := p7
                have ST8 := p8
                have ST9 := p9
                have ST10 := p10
                have ST11 := p11
                have ST12 := p12
                have ST13 := p13
                have ST14 := p14
                have ST15 := p15
                have ST16 := p16
                have ST17 := p17
                have ST18 := p18
                have ST19 := p19
                have ST20 := p20
                have ST21 := p21
                have ST22 := p22
                have ST23 := p23
                have ST24 := p24
                have ST25 := p25
                have ST26 := p26
                have ST27 := p27
                have ST28 := p28
                refine wpOp_step rfl fun K hK => ?_
                clear hd hs hi hl
                go_simp
                refine hK _ _ ⟨_, _, _, _, _, _, _, _, _, _, _, _, _, _, _, _, _, _, _, _, _, _, _, _, _, _, _, _, _, rfl, hG, fun _ => rfl, fun h => ST1 (OL 1 (by decide) h), fun h => ST2 (OL 2 (by decide) h), fun h => ST3 (OL 3 (by decide) h), fun h => ST4 (OL 4 (by decide) h), fun h => ST5 (OL 5 (by decide) h), fun h => ST6 (OL 6 (by decide) h), fun h => ST7 (OL 7 (by decide) h), fun h => ST8 (OL 8 (by decide) h), fun h => ST9 (OL 9 (by decide) h), fun h => ST10 (OL 10 (by decide) h), fun h => ST11 (OL 11 (by decide) h), fun h => ST12 (OL 12 (by decide) h), fun h => ST13 (OL 13 (by decide) h), fun h => ST14 (OL 14 (by decide) h), fun h => ST15 (OL 15 (by decide) h), fun h => ST16 (OL 16 (by decide) h), fun h => ST17 (OL 17 (by decide) h), fun h => ST18 (OL 18 (by decide) h), fun h => ST19 (OL 19 (by decide) h), fun h => ST20 (OL 20 (by decide) h), fun h => ST21 (OL 21 (by decide) h), fun h => ST22 (OL 22 (by decide) h), fun h => ST23 (OL 23 (by decide) h), fun h => ST24 (OL 24 (by decide) h), fun h => ST25 (OL 25 (by decide) h), fun h => ST26 (OL 26 (by decide) h), fun h => ST27 (OL 27 (by decide) h), fun h => ST28 (OL 28 (by decide) h)⟩
              · have hLf : L.getD 1 false = false := getD_false hl (by rw [hs]; decide)
                have hsz : 1 < L.size := by rw [hs]; decide
                have OL : ∀ j, j ≠ 1 → (L.setIfInBounds 1 true).getD j false = true → L.getD j false = true := fun j hj h => by rw [getD_setB _ _ _ _ hsz, if_neg hj] at h; exact h
                have ST0 := p0
                have ST1 := p1
                have ST2 := p2
                have ST3 := p3
                have ST4 := p4
                have ST5 := p5
                have ST6 := p6
                have ST7 := p7
                have ST8 := p8
                have ST9 := p9
                have ST10 := p10
                have ST11 := p11
                have ST12 := p12
                have ST13 := p13
                have ST14 := p14
                have ST15 := p15
                have ST16 := p16
                have ST17 := p17
                have ST18 := p18
                have ST19 := p19
                have ST20 := p20
                have ST21 := p21
                have ST22 := p22
                have ST23 := p23
                have ST24 := p24
                have ST25 := p25
                have ST26 := p26
                have ST27 := p27
                have ST28 := p28
                refine wpOp_step rfl fun K hK => ?_
                clear hd hs hi hl
                go_simp
                refine hK _ _ ⟨_, _, _, _, _, _, _, _, _, _, _, _, _, _, _, _, _, _, _, _, _, _, _, _, _, _, _, _, _, rfl, hG, fun h => ST0 (OL 0 (by decide) h), fun _ => rfl, fun h => ST2 (OL 2 (by decide) h), fun h => ST3 (OL 3 (by decide) h), fun h => ST4 (OL 4 (by decide) h), fun h => ST5 (OL 5 (by decide) h), fun h => ST6 (OL 6 (by decide) h), fun h => ST7 (OL 7 (by decide) h), fun h => ST8 (OL 8 (by decide) h), fun h => ST9 (OL 9 (by decide) h), fun h => ST10 (OL 10 (by decide) h), fun h => ST11 (OL 11 (by decide) h), fun h => ST12 (OL 12 (by decide) h), fun h => ST13 (OL 13 (by decide) h), fun h => ST14 (OL 14 (by decide) h), fun h => ST15 (OL 15 (by decide) h), fun h => ST16 (OL 16 (by decide) h), fun h => ST17 (OL 17 (by decide) h), fun h => ST18 (OL 18 (by decide) h), fun h => ST19 (OL 19 (by decide) h), fun h => ST20 (OL 20 (by decide) h), fun h => ST21 (OL 21 (by decide) h), fun h => ST22 (OL 22 (by decide) h), fun h => ST23 (OL 23 (by decide) h), fun h => ST24 (OL 24 (by decide) h), fun h => ST25 (OL 25 (by decide) h), fun h => ST26 (OL 26 (by decide) h), fun h => ST27 (OL 27 (by decide) h), fun h => ST28 (OL 28 (by decide) h)⟩
              · have hLf : L.getD 2 false = false := getD_false hl (by rw [hs]; decide)
                have hsz : 2 < L.size := by rw [hs]; decide
                have OL : ∀ j, j ≠ 2 → (L.setIfInBounds 2 true).getD j false = true → L.getD j false = true := fun j hj h => by rw [getD_setB _ _ _ _ hsz, if_neg hj] at h; exact h
                have d0 := hd _ rfl ⟨0, .data⟩ (by simp) rfl
                have d1 := hd _ rfl ⟨1, .data⟩ (by simp) rfl
                obtain rfl := p0 d0
                obtain rfl := p1 d1
                have ST0 := p0
                have ST1 := p1
                have ST2 := p2
                have ST3 := p3
                have ST4 := p4
                have ST5 := p5
                have ST6 := p6
                have ST7 := p7
                have ST8 := p8
                have ST9 := p9
                have ST10 := p10
                have ST11 := p11
                have ST12 := p12
                have ST13 := p13
                have ST14 := p14
                have ST15 := p15
                have ST16 := p16
                have ST17 := p17
                have ST18 := p18
                have ST19 := p19
                have ST20 := p20
                have ST21 := p21
                have ST22 := p22
                have ST23 := p23
                have ST24 := p24
                have ST25 := p25
                have ST26 := p26
                have ST27 := p27
                have ST28 := p28
                refine wpOp_step rfl fun K hK => ?_
                clear hd hs hi hl
                go_simp
                refine hK _ _ ⟨_, _, _, _, _, _, _, _, _, _, _, _, _, _, _, _, _, _, _, _, _, _, _, _, _, _, _, _, _, rfl, hG, fun h => ST0 (OL 0 (by decide) h), fun h => ST1 (OL 1 (by decide) h), fun _ => by first | rfl | simp [q1], fun h => ST3 (OL 3 (by decide) h), fun h => ST4 (OL 4 (by decide) h), fun h => ST5 (OL 5 (by decide) h), fun h => ST6 (OL 6 (by decide) h), fun h => ST7 (OL 7 (by decide) h), fun h => ST8 (OL 8 (by decide) h), fun h => ST9 (OL 9 (by decide) h), fun h => ST10 (OL 10 (by decide) h), fun h => ST11 (OL 11 (by decide) h), fun h => ST12 (OL 12 (by decide) h), fun h => ST13 (OL 13 (by decide) h), fun h => ST14 (OL 14 (by decide) h), fun h => ST15 (OL 15 (by decide) h), fun h => ST16 (OL 16 (by decide) h), fun h => ST17 (OL 17 (by decide) h), fun h => ST18 (OL 18 (by decide) h), fun h => ST19 (OL 19 (by decide) h), fun h => ST20 (OL 20 (by decide) h), fun h => ST21 (OL 21 (by decide) h), fun h => ST22 (OL 22 (by decide) h), fun h => ST23 (OL 23 (by decide) h), fun h => ST24 (OL 24 (by decide) h), fun h => ST25 (OL 25 (by decide) h), fun h => ST26 (OL 26 (by decide) h), fun h => ST27 (OL 27 (by decide) h), fun h => ST28 (OL 28 (by decide) h)⟩
              · have hLf : L.getD 3 false = false := getD_false hl (by rw [hs]; decide)
                have hsz : 3 < L.size := by rw [hs]; decide
                have OL : ∀ j, j ≠ 3 → (L.setIfInBounds 3 true).getD j false = true → L.getD j false = true := fun j hj h => by rw [getD_setB _ _ _ _ hsz, if_neg hj] at h; exact h
                have d2 := hd _ rfl ⟨2, .data⟩ (by simp) rfl
                obtain rfl := p2 d2
                have ST0 := p0
                have ST1 := p1
                have ST2 := p2
                have ST3 := p3
                have ST4 := p4
                have ST5 := p5
                have ST6 := p6
                have ST7 := p7
                have ST8 := p8
                have ST9 := p9
                have ST10 := p10
                have ST11 := p11
                have ST12 := p12
                have ST13 := p13
                have ST14 := p14
                have ST15 := p15
                have ST16 := p16
                have ST17 := p17
                have ST18 := p18
                have ST19 := p19
                have ST20 := p20
                have ST21 := p21
                have ST22 := p22
                have ST23 := p23
                have ST24 := p24
                have ST25 := p25
                have ST26 := p26
                have ST27 := p27
                have ST28 := p28
                refine wpOp_step rfl fun K hK => ?_
                clear hd hs hi hl
                go_simp
                refine hK _ _ ⟨_, _, _, _, _, _, _, _, _, _, _, _, _, _, _, _, _, _, _, _, _, _, _, _, _, _, _, _, _, rfl, hG, fun h => ST0 (OL 0 (by decide) h), fun h => ST1 (OL 1 (by decide) h), fun h => ST2 (OL 2 (by decide) h), fun _ => rfl, fun h => ST4 (OL 4 (by decide) h), fun h => ST5 (OL 5 (by decide) h), fun h => ST6 (OL 6 (by decide) h), fun h => ST7 (OL 7 (by decide) h), fun h => ST8 (OL 8 (by decide) h), fun h => ST9 (OL 9 (by decide) h), fun h => ST10 (OL 10 (by decide) h), fun h => ST11 (OL 11 (by decide) h), fun h => ST12 (OL 12 (by decide) h), fun h => ST13 (OL 13 (by decide) h), fun h => ST14 (OL 14 (by decide) h), fun h => ST15 (OL 15 (by decide) h), fun h => ST16 (OL 16 (by decide) h), fun h => ST17 (OL 17 (by decide) h), fun h => ST18 (OL 18 (by decide) h), fun h => ST19 (OL 19 (by decide) h), fun h => ST20 (OL 20 (by decide) h), fun h => ST21 (OL 21 (by decide) h), fun h => ST22 (OL 22 (by decide) h), fun h => ST23 (OL 23 (by decide) h), fun h => ST24 (OL 24 (by decide) h), fun h => ST25 (OL 25 (by decide) h), fun h => ST26 (OL 26 (by decide) h), fun h => ST27 (OL 27 (by decide) h), fun h => ST28 (OL 28 (by decide) h)⟩
              · have hLf : L.getD 4 false = false := getD_false hl (by rw [hs]; decide)
                have hsz : 4 < L.size := by rw [hs]; decide
                have OL : ∀ j, j ≠ 4 → (L.setIfInBounds 4 true).getD j false = true → L.getD j false = true := fun j hj h => by rw [getD_setB _ _ _ _ hsz, if_neg hj] at h; exact h
                have d3 := hd _ rfl ⟨3, .guard⟩ (by simp) rfl
                obtain rfl := p3 d3
                have ST0 := p0
                have ST1 := p1
                have ST2 := p2
                have ST3 := p3
                have ST4 := p4
                have ST5 := p5
                have ST6 := p6
                have ST7 := p7
                have ST8 := p8
                have ST9 := p9
                have ST10 := p10
                have ST11 := p11
                have ST12 := p12
                have ST13 := p13
                have ST14 := p14
                have ST15 := p15
                have ST16 := p16
                have ST17 := p17
                have ST18 := p18
                have ST19 := p19
                have ST20 := p20
                have ST21 := p21
                have ST22 := p22
                have ST23 := p23
                have ST24 := p24
                have ST25 := p25
                have ST26 := p26
                have ST27 := p27
                have ST28 := p28
                refine wpOp_step rfl fun K hK => ?_
                clear hd hs hi hl
                go_simp
                refine hK _ _ ⟨_, _, _, _, _, _, _, _, _, _, _, _, _, _, _, _, _, _, _, _, _, _, _, _, _, _, _, _, _, rfl, hG, fun h => ST0 (OL 0 (by decide) h), fun h => ST1 (OL 1 (by decide) h), fun h => ST2 (OL 2 (by decide) h), fun h => ST3 (OL 3 (by decide) h), fun _ => rfl, fun h => ST5 (OL 5 (by decide) h), fun h => ST6 (OL 6 (by decide) h), fun h => ST7 (OL 7 (by decide) h), fun h => ST8 (OL 8 (by decide) h), fun h => ST9 (OL 9 (by decide) h), fun h => ST10 (OL 10 (by decide) h), fun h => ST11 (OL 11 (by decide) h), fun h => ST12 (OL 12 (by decide) h), fun h => ST13 (OL 13 (by decide) h), fun h => ST14 (OL 14 (by decide) h), fun h => ST15 (OL 15 (by decide) h), fun h => ST16 (OL 16 (by decide) h), fun h => ST17 (OL 17 (by decide) h), fun h => ST18 (OL 18 (by decide) h), fun h => ST19 (OL 19 (by decide) h), fun h => ST20 (OL 20 (by decide) h), fun h => ST21 (OL 21 (by decide) h), fun h => ST22 (OL 22 (by decide) h), fun h => ST23 (OL 23 (by decide) h), fun h => ST24 (OL 24 (by decide) h), fun h => ST25 (OL 25 (by decide) h), fun h => ST26 (OL 26 (by decide) h), fun h => ST27 (OL 27 (by decide) h), fun h => ST28 (OL 28 (by decide) h)⟩
              · have hLf : L.getD 5 false = false := getD_false hl (by rw [hs]; decide)
                have hsz : 5 < L.size := by rw [hs]; decide
                have OL : ∀ j, j ≠ 5 → (L.setIfInBounds 5 true).getD j false = true → L.getD j false = true := fun j hj h => by rw [getD_setB _ _ _ _ hsz, if_neg hj] at h; exact h
                have d3 := hd _ rfl ⟨3, .guard⟩ (by simp) rfl
                obtain rfl := p3 d3
                have ST0 := p0
                have ST1 := p1
                have ST2 := p2
                have ST3 := p3
                have ST4 := p4
                have ST5 := p5
                have ST6 := p6
                have ST7 := p7
                have ST8 := p8
                have ST9 := p9
                have ST10 := p10
                have ST11 := p11
                have ST12 := p12
                have ST13 := p13
                have ST14 := p14
                have ST15 := p15
                have ST16 := p16
                have ST17 := p17
                have ST18 := p18
                have ST19 := p19
                have ST20 := p20
                have ST21 := p21
                have ST22 := p22
                have ST23 := p23
                have ST24 := p24
                have ST25 := p25
                have ST26 := p26
                have ST27 := p27
                have ST28 := p28
                refine wpOp_step rfl fun K hK => ?_
                clear hd hs hi hl
                go_simp
                refine hK _ _ ⟨_, _, _, _, _, _, _, _, _, _, _, _, _, _, _, _, _, _, _, _, _, _, _, _, _, _, _, _, _, rfl, hG, fun h => ST0 (OL 0 (by decide) h), fun h => ST1 (OL 1 (by decide) h), fun h => ST2 (OL 2 (by decide) h), fun h => ST3 (OL 3 (by decide) h), fun h => ST4 (OL 4 (by decide) h), fun _ => rfl, fun h => ST6 (OL 6 (by decide) h), fun h => ST7 (OL 7 (by decide) h), fun h => ST8 (OL 8 (by decide) h), fun h => ST9 (OL 9 (by decide) h), fun h => ST10 (OL 10 (by decide) h), fun h => ST11 (OL 11 (by decide) h), fun h => ST12 (OL 12 (by decide) h), fun h => ST13 (OL 13 (by decide) h), fun h => ST14 (OL 14 (by decide) h), fun h => ST15 (OL 15 (by decide) h), fun h => ST16 (OL 16 (by decide) h), fun h => ST17 (OL 17 (by decide) h), fun h => ST18 (OL 18 (by decide) h), fun h => ST19 (OL 19 (by decide) h), fun h => ST20 (OL 20 (by decide) h), fun h => ST21 (OL 21 (by decide) h), fun h => ST22 (OL 22 (by decide) h), fun h => ST23 (OL 23 (by decide) h), fun h => ST24 (OL 24 (by decide) h), fun h => ST25 (OL 25 (by decide) h), fun h => ST26 (OL 26 (by decide) h), fun h => ST27 (OL 27 (by decide) h), fun h => ST28 (OL 28 (by decide) h)⟩
              · have hLf : L.getD 6 false = false := getD_false hl (by rw [hs]; decide)
                have hsz : 6 < L.size := by rw [hs]; decide
                have OL : ∀ j, j ≠ 6 → (L.setIfInBounds 6 true).getD j false = true → L.getD j false = true := fun j hj h => by rw [getD_setB _ _ _ _ hsz, if_neg hj] at h; exact h
                have d4 := hd _ rfl ⟨4, .data⟩ (by simp) rfl
                have d5 := hd _ rfl ⟨5, .data⟩ (by simp) rfl
                have d3 := hd _ rfl ⟨3, .guard⟩ (by simp) rfl
                obtain rfl := p4 d4
                obtain rfl := p5 d5
                obtain rfl := p3 d3
                have ST0 := p0
                have ST1 := p1
                have ST2 := p2
                have ST3 := p3
                have ST4 := p4
                have ST5 := p5
                have ST6 := p6
                have ST7 := p7
                have ST8 := p8
                have ST9 := p9
                have ST10 := p10
                have ST11 := p11
                have ST12 := p12
                have ST13 := p13
                have ST14 := p14
                have ST15 := p15
                have ST16 := p16
                have ST17 := p17
                have ST18 := p18
                have ST19 := p19
                have ST20 := p20
                have ST21 := p21
                have ST22 := p22
                have ST23 := p23
                have ST24 := p24
                have ST25 := p25
                have ST26 := p26
                have ST27 := p27
                have ST28 := p28
                refine wpOp_step rfl fun K hK => ?_
                clear hd hs hi hl
                go_simp
                refine hK _ _ ⟨_, _, _, _, _, _, _, _, _, _, _, _, _, _, _, _, _, _, _, _, _, _, _, _, _, _, _, _, _, rfl, hG, fun h => ST0 (OL 0 (by decide) h), fun h => ST1 (OL 1 (by decide) h), fun h => ST2 (OL 2 (by decide) h), fun h => ST3 (OL 3 (by decide) h), fun h => ST4 (OL 4 (by decide) h), fun h => ST5 (OL 5 (by decide) h), fun _ => rfl, fun h => ST7 (OL 7 (by decide) h), fun h => ST8 (OL 8 (by decide) h), fun h => ST9 (OL 9 (by decide) h), fun h => ST10 (OL 10 (by decide) h), fun h => ST11 (OL 11 (by decide) h), fun h => ST12 (OL 12 (by decide) h), fun h => ST13 (OL 13 (by decide) h), fun h => ST14 (OL 14 (by decide) h), fun h => ST15 (OL 15 (by decide) h), fun h => ST16 (OL 16 (by decide) h), fun h => ST17 (OL 17 (by decide) h), fun h => ST18 (OL 18 (by decide) h), fun h => ST19 (OL 19 (by decide) h), fun h => ST20 (OL 20 (by decide) h), fun h => ST21 (OL 21 (by decide) h), fun h => ST22 (OL 22 (by decide) h), fun h => ST23 (OL 23 (by decide) h), fun h => ST24 (OL 24 (by decide) h), fun h => ST25 (OL 25 (by decide) h), fun h => ST26 (OL 26 (by decide) h), fun h => ST27 (OL 27 (by decide) h), fun h => ST28 (OL 28 (by decide) h)⟩
              · have hLf : L.getD 7 false = false := getD_false hl (by rw [hs]; decide)
                have hsz : 7 < L.size := by rw [hs]; decide
                have OL : ∀ j, j ≠ 7 → (L.setIfInBounds 7 true).getD j false = true → L.getD j false = true := fun j hj h => by rw [getD_setB _ _ _ _ hsz, if_neg hj] at h; exact h
                have d6 := hd _ rfl ⟨6, .data⟩ (by simp) rfl
                have d3 := hd _ rfl ⟨3, .guard⟩ (by simp) rfl
                obtain rfl := p6 d6
                obtain rfl := p3 d3
                have c1 := hG.cell k1 (by simp)
                have ST0 := p0
                have ST1 := p1
                have ST2 := p2
                have ST3 := p3
                have ST4 := p4
                have ST5 := p5
                have ST6 := p6
                have ST7 := p7
                have ST8 := p8
                have ST9 := p9
                have ST10 := p10
                have ST11 := p11
                have ST12 := p12
                have ST13 := p13
                have ST14 := p14
                have ST15 := p15
                have ST16 := p16
                have ST17 := p17
                have ST18 := p18
                have ST19 := p19
                have ST20 := p20
                have ST21 := p21
                have ST22 := p22
                have ST23 := p23
                have ST24 := p24
                have ST25 := p25
                have ST26 := p26
                have ST27 := p27
                have ST28 := p28
                refine wpOp_step rfl fun K hK => ?_
                clear hd hs hi hl
                go_simp
                refine hK _ _ ⟨_, _, _, _, _, _, _, _, _, _, _, _, _, _, _, _, _, _, _, _, _, _, _, _, _, _, _, _, _, rfl, hG, fun h => ST0 (OL 0 (by decide) h), fun h => ST1 (OL 1 (by decide) h), fun h => ST2 (OL 2 (by decide) h), fun h => ST3 (OL 3 (by decide) h), fun h => ST4 (OL 4 (by decide) h), fun h => ST5 (OL 5 (by decide) h), fun h => ST6 (OL 6 (by decide) h), fun _ => rfl, fun h => ST8 (OL 8 (by decide) h), fun h => ST9 (OL 9 (by decide) h), fun h => ST10 (OL 10 (by decide) h), fun h => ST11 (OL 11 (by decide) h), fun h => ST12 (OL 12 (by decide) h), fun h => ST13 (OL 13 (by decide) h), fun h => ST14 (OL 14 (by decide) h), fun h => ST15 (OL 15 (by decide) h), fun h => ST16 (OL 16 (by decide) h), fun h => ST17 (OL 17 (by decide) h), fun h => ST18 (OL 18 (by decide) h), fun h => ST19 (OL 19 (by decide) h), fun h => ST20 (OL 20 (by decide) h), fun h => ST21 (OL 21 (by decide) h), fun h => ST22 (OL 22 (by decide) h), fun h => ST23 (OL 23 (by decide) h), fun h => ST24 (OL 24 (by decide) h), fun h => ST25 (OL 25 (by decide) h), fun h => ST26 (OL 26 (by decide) h), fun h => ST27 (OL 27 (by decide) h), fun h => ST28 (OL 28 (by decide) h)⟩
              · have hLf : L.getD 8 false = false := getD_false hl (by rw [hs]; decide)
                have hsz : 8 < L.size := by rw [hs]; decide
                have OL : ∀ j, j ≠ 8 → (L.setIfInBounds 8 true).getD j false = true → L.getD j false = true := fun j hj h => by rw [getD_setB _ _ _ _ hsz, if_neg hj] at h; exact h
                have d3 := hd _ rfl ⟨3, .guard⟩ (by simp) rfl
                obtain rfl := p3 d3
                have ST0 := p0
                have ST1 := p1
                have ST2 := p2
                have ST3 := p3
                have ST4 := p4
                have ST5 := p5
                have ST6 := p6
                have ST7 := p7
                have ST8 := fun (o : Obj) h => (p8 h).kept (World.grownBy_alloc W o _)
                have ST9 := p9
                have ST10 := p10
                have ST11 := p11
                have ST12 := p12
                have ST13 := p13
                have ST14 := p14
                have ST15 := p15
                have ST16 := p16
                have ST17 := p17
                have ST18 := p18
                have ST19 := p19
                have ST20 := p20
                have ST21 := p21
                have ST22 := p22
                have ST23 := p23
                have ST24 := p24
                have ST25 := p25
                have ST26 := p26
                have ST27 := p27
                have ST28 := p28
                refine wpOp_step rfl fun K hK => ?_
                clear hd hs hi hl
                go_simp
                refine hK _ _ ⟨_, _, _, _, _, _, _, _, _, _, _, _, _, _, _, _, _, _, _, _, _, _, _, _, _, _, _, _, _, rfl, hG.trans_alloc _, fun h => ST0 (OL 0 (by decide) h), fun h => ST1 (OL 1 (by decide) h), fun h => ST2 (OL 2 (by decide) h), fun h => ST3 (OL 3 (by decide) h), fun h => ST4 (OL 4 (by decide) h), fun h => ST5 (OL 5 (by decide) h), fun h => ST6 (OL 6 (by decide) h), fun h => ST7 (OL 7 (by decide) h), fun _ => ⟨W.heap.size, rfl, lit4 W 0 0 0 0⟩, fun h => ST9 (OL 9 (by decide) h), fun h => ST10 (OL 10 (by decide) h), fun h => ST11 (OL 11 (by decide) h), fun h => ST12 (OL 12 (by decide) h), fun h => ST13 (OL 13 (by decide) h), fun h => ST14 (OL 14 (by decide) h), fun h => ST15 (OL 15 (by decide) h), fun h => ST16 (OL 16 (by decide) h), fun h => ST17 (OL 17 (by decide) h), fun h => ST18 (OL 18 (by decide) h), fun h => ST19 (OL 19 (by decide) h), fun h => ST20 (OL 20 (by decide) h), fun h => ST21 (OL 21 (by decide) h), fun h => ST22 (OL 22 (by decide) h), fun h => ST23 (OL 23 (by decide) h), fun h => ST24 (OL 24 (by decide) h), fun h => ST25 (OL 25 (by decide) h), fun h => ST26 (OL 26 (by decide) h), fun h => ST27 (OL 27 (by decide) h), fun h => ST28 (OL 28 (by decide) h)⟩
              · have hLf : L.getD 9 false = false := getD_false hl (by rw [hs]; decide)
                have hsz : 9 < L.size := by rw [hs]; decide
                have OL : ∀ j, j ≠ 9 → (L.setIfInBounds 9 true).getD j false = true → L.getD j false = true := fun j hj h => by rw [getD_setB _ _ _ _ hsz, if_neg hj] at h; exact h
                have d7 := hd _ rfl ⟨7, .data⟩ (by simp) rfl
                have d8 := hd _ rfl ⟨8, .data⟩ (by simp) rfl
                have d3 := hd _ rfl ⟨3, .guard⟩ (by simp) rfl
                obtain rfl := p7 d7
                obtain rfl := p3 d3
                obtain ⟨lb, rfl, hlit⟩ := p8 d8
                refine wpOp_step rfl fun K hK => ?_
                clear hd hs hi hl
                go_simp
                refine (sameInts_t r1 (some ⟨lb, 0, none⟩) s1 4 la [0, 0, 0, 0] _ HQ.out (J1.out.gnone hG) hlit J3).mono ?_
                rintro e W2 ⟨rfl, n9, hw9⟩; have hgk : W.grownBy W2 none := by rw [hw9]; exact drewN_none _ _
                have ST0 := p0
                have ST1 := p1
                have ST2 := p2
                have ST3 := p3
                have ST4 := p4
                have ST5 := p5
                have ST6 := p6
                have ST7 := p7
                have ST8 := fun h => (p8 h).kept hgk
                have ST9 := p9
                have ST10 := p10
                have ST11 := p11
                have ST12 := p12
                have ST13 := p13
                have ST14 := p14
                have ST15 := p15
                have ST16 := p16
                have ST17 := p17
                have ST18 := p18
                have ST19 := p19
                have ST20 := p20
                have ST21 := p21
                have ST22 := p22
                have ST23 := p23
                have ST24 := p24
                have ST25 := p25
                have ST26 := p26
                have ST27 := p27
                have ST28 := p28
                refine hK _ _ ⟨_, _, _, _, _, _, _, _, _, _, _, _, _, _, _, _, _, _, _, _, _, _, _, _, _, _, _, _, _, rfl, grown_trans hG hgk, fun h => ST0 (OL 0 (by decide) h), fun h => ST1 (OL 1 (by decide) h), fun h => ST2 (OL 2 (by decide) h), fun h => ST3 (OL 3 (by decide) h), fun h => ST4 (OL 4 (by decide) h), fun h => ST5 (OL 5 (by decide) h), fun h => ST6 (OL 6 (by decide) h), fun h => ST7 (OL 7 (by decide) h), fun h => ST8 (OL 8 (by decide) h), fun _ => rfl, fun h => ST10 (OL 10 (by decide) h), fun h => ST11 (OL 11 (by decide) h), fun h => ST12 (OL 12 (by decide) h), fun h => ST13 (OL 13 (by decide) h), fun h => ST14 (OL 14 (by decide) h), fun h => ST15 (OL 15 (by decide) h), fun h => ST16 (OL 16 (by decide) h), fun h => ST17 (OL 17 (by decide) h), fun h => ST18 (OL 18 (by decide) h), fun h => ST19 (OL 19 (by decide) h), fun h => ST20 (OL 20 (by decide) h), fun h => ST21 (OL 21 (by decide) h), fun h => ST22 (OL 22 (by decide) h), fun h => ST23 (OL 23 (by decide) h), fun h => ST24 (OL 24 (by decide) h), fun h => ST25 (OL 25 (by decide) h), fun h => ST26 (OL 26 (by decide) h), fun h => ST27 (OL 27 (by decide) h), fun h => ST28 (OL 28 (by decide) h)⟩
              · have hLf : L.getD 10 false = false := getD_false hl (by rw [hs]; decide)
                have hsz : 10 < L.size := by rw [hs]; decide
                have OL : ∀ j, j ≠ 10 → (L.setIfInBounds 10 true).getD j false = true → L.getD j false = true := fun j hj h => by rw [getD_setB _ _ _ _ hsz, if_neg hj] at h; exact h
                have d9 := hd _ rfl ⟨9, .data⟩ (by simp) rfl
                have d3 := hd _ rfl ⟨3, .guard⟩ (by simp) rfl
                obtain rfl := p9 d9
                obtain rfl := p3 d3
                have ST0 := p0
                have ST1 := p1
                have ST2 := p2
                have ST3 := p3
                have ST4 := p4
                have ST5 := p5
                have ST6 := p6
                have ST7 := p7
                have ST8 := p8
                have ST9 := p9
                have ST10 := p10
                have ST11 := p11
                have ST12 := p12
                have ST13 := p13
                have ST14 := p14
                have ST15 := p15
                have ST16 := p16
                have ST17 := p17
                have ST18 := p18
                have ST19 := p19
                have ST20 := p20
                have ST21 := p21
                have ST22 := p22
                have ST23 := p23
                have ST24 := p24
                have ST25 := p25
                have ST26 := p26
                have ST27 := p27
                have ST28 := p28
                refine wpOp_step rfl fun K hK => ?_
                clear hd hs hi hl
                go_simp
                refine hK _ _ ⟨_, _, _, _, _, _, _, _, _, _, _, _, _, _, _, _, _, _, _, _, _, _, _, _, _, _, _, _, _, rfl, hG, fun h => ST0 (OL 0 (by decide) h), fun h => ST1 (OL 1 (by decide) h), fun h => ST2 (OL 2 (by decide) h), fun h => ST3 (OL 3 (by decide) h), fun h => ST4 (OL 4 (by decide) h), fun h => ST5 (OL 5 (by decide) h), fun h => ST6 (OL 6 (by decide) h), fun h => ST7 (OL 7 (by decide) h), fun h => ST8 (OL 8 (by decide) h), fun h => ST9 (OL 9 (by decide) h), fun _ => rfl, fun h => ST11 (OL 11 (by decide) h), fun h => ST12 (OL 12 (by decide) h), fun h => ST13 (OL 13 (by decide) h), fun h => ST14 (OL 14 (by decide) h), fun h => ST15 (OL 15 (by decide) h), fun h => ST16 (OL 16 (by decide) h), fun h => ST17 (OL 17 (by decide) h), fun h => ST18 (OL 18 (by decide) h), fun h => ST19 (OL 19 (by decide) h), fun h => ST20 (OL 20 (by decide) h), fun h => ST21 (OL 21 (by decide) h), fun h => ST22 (OL 22 (by decide) h), fun h => ST23 (OL 23 (by decide) h), fun h => ST24 (OL 24 (by decide) h), fun h => ST25 (OL 25 (by decide) h), fun h => ST26 (OL 26 (by decide) h), fun h => ST27 (OL 27 (by decide) h), fun h => ST28 (OL 28 (by decide) h)⟩
              · have hLf : L.getD 11 false = false := getD_false hl (by rw [hs]; decide)
                have hsz : 11 < L.size := by rw [hs]; decide
                have OL : ∀ j, j ≠ 11 → (L.setIfInBounds 11 true).getD j false = true → L.getD j false = true := fun j hj h => by rw [getD_setB _ _ _ _ hsz, if_neg hj] at h; exact h
                have d3 := hd _ rfl ⟨3, .data⟩ (by simp) rfl
                have d10 := hd _ rfl ⟨10, .data⟩ (by simp) rfl
                obtain rfl := p3 d3
                obtain rfl := p10 d10
                have ST0 := p0
                have ST1 := p1
                have ST2 := p2
                have ST3 := p3
                have ST4 := p4
                have ST5 := p5
                have ST6 := p6
                have ST7 := p7
                have ST8 := p8
                have ST9 := p9
                have ST10 := p10
                have ST11 := p11
                have ST12 := p12
                have ST13 := p13
                have ST14 := p14
                have ST15 := p15
                have ST16 := p16
                have ST17 := p17
                have ST18 := p18
                have ST19 := p19
                have ST20 := p20
                have ST21 := p21
                have ST22 := p22
                have ST23 := p23
                have ST24 := p24
                have ST25 := p25
                have ST26 := p26
                have ST27 := p27
                have ST28 := p28
                refine wpOp_step rfl fun K hK => ?_
                clear hd hs hi hl
                go_simp
                refine hK _ _ ⟨_, _, _, _, _, _, _, _, _, _, _, _, _, _, _, _, _, _, _, _, _, _, _, _, _, _, _, _, _, rfl, hG, fun h => ST0 (OL 0 (by decide) h), fun h => ST1 (OL 1 (by decide) h), fun h => ST2 (OL 2 (by decide) h), fun h => ST3 (OL 3 (by decide) h), fun h => ST4 (OL 4 (by decide) h), fun h => ST5 (OL 5 (by decide) h), fun h => ST6 (OL 6 (by decide) h), fun h => ST7 (OL 7 (by decide) h), fun h => ST8 (OL 8 (by decide) h), fun h => ST9 (OL 9 (by decide) h), fun h => ST10 (OL 10 (by decide) h), fun _ => rfl, fun h => ST12 (OL 12 (by decide) h), fun h => ST13 (OL 13 (by decide) h), fun h => ST14 (OL 14 (by decide) h), fun h => ST15 (OL 15 (by decide) h), fun h => ST16 (OL 16 (by decide) h), fun h => ST17 (OL 17 (by decide) h), fun h => ST18 (OL 18 (by decide) h), fun h => ST19 (OL 19 (by decide) h), fun h => ST20 (OL 20 (by decide) h), fun h => ST21 (OL 21 (by decide) h), fun h => ST22 (OL 22 (by decide) h), fun h => ST23 (OL 23 (by decide) h), fun h => ST24 (OL 24 (by decide) h), fun h => ST25 (OL 25 (by decide) h), fun h => ST26 (OL 26 (by decide) h), fun h => ST27 (OL 27 (by decide) h), fun h => ST28 (OL 28 (by decide) h)⟩
              · have hLf : L.getD 12 false = false := getD_false hl (by rw [hs]; decide)
                have hsz : 12 < L.size := by rw [hs]; decide
                have OL : ∀ j, j ≠ 12 → (L.setIfInBounds 12 true).getD j false = true → L.getD j false = true := fun j hj h => by rw [getD_setB _ _ _ _ hsz, if_neg hj] at h; exact h
                have d11 := hd _ rfl ⟨11, .data⟩ (by simp) rfl
                obtain rfl := p11 d11
                have ST0 := p0
                have ST1 := p1
                have ST2 := p2
                have ST3 := p3
                have ST4 := p4
                have ST5 := p5
                have ST6 := p6
                have ST7 := p7
                have ST8 := p8
                have ST9 := p9
                have ST10 := p10
                have ST11 := p11
                have ST12 := p12
                have ST13 := p13
                have ST14 := p14
                have ST15 := p15
                have ST16 := p16
                have ST17 := p17
                have ST18 := p18
                have ST19 := p19
                have ST20 := p20
                have ST21 := p21
                have ST22 := p22
                have ST23 := p23
                have ST24 := p24
                have ST25 := p25
                have ST26 := p26
                have ST27 := p27
                have ST28 := p28
                refine wpOp_step rfl fun K hK => ?_
                clear hd hs hi hl
                go_simp
                refine hK _ _ ⟨_, _, _, _, _, _, _, _, _, _, _, _, _, _, _, _, _, _, _, _, _, _, _, _, _, _, _, _, _, rfl, hG, fun h => ST0 (OL 0 (by decide) h), fun h => ST1 (OL 1 (by decide) h), fun h => ST2 (OL 2 (by decide) h), fun h => ST3 (OL 3 (by decide) h), fun h => ST4 (OL 4 (by decide) h), fun h => ST5 (OL 5 (by decide) h), fun h => ST6 (OL 6 (by decide) h), fun h => ST7 (OL 7 (by decide) h), fun h => ST8 (OL 8 (by decide) h), fun h => ST9 (OL 9 (by decide) h), fun h => ST10 (OL 10 (by decide) h), fun h => ST11 (OL 11 (by decide) h), fun _ => rfl, fun h => ST13 (OL 13 (by decide) h), fun h => ST14 (OL 14 (by decide) h), fun h => ST15 (OL 15 (by decide) h), fun h => ST16 (OL 16 (by decide) h), fun h => ST17 (OL 17 (by decide) h), fun h => ST18 (OL 18 (by decide) h), fun h => ST19 (OL 19 (by decide) h), fun h => ST20 (OL 20 (by decide) h), fun h => ST21 (OL 21 (by decide) h), fun h => ST22 (OL 22 (by decide) h), fun h => ST23 (OL 23 (by decide) h), fun h => ST24 (OL 24 (by decide) h), fun h => ST25 (OL 25 (by decide) h), fun h => ST26 (OL 26 (by decide) h), fun h => ST27 (OL 27 (by decide) h), fun h => ST28 (OL 28 (by decide) h)⟩
              · have hLf : L.getD 13 false = false := getD_false hl (by rw [hs]; decide)
                have hsz : 13 < L.size := by rw [hs]; decide
                have OL : ∀ j, j ≠ 13 → (L.setIfInBounds 13 true).getD j false = true → L.getD j false = true := fun j hj h => by rw [getD_setB _ _ _ _ hsz, if_neg hj] at h; exact h
                have d12 := hd _ rfl ⟨12, .guard⟩ (by simp) rfl
                obtain rfl := p12 d12
                have ST0 := p0
                have ST1 := p1
                have ST2 := p2
                have ST3 := p3
                have ST4 := p4
                have ST5 := p5
                have ST6 := p6
                have ST7 := p7
                have ST8 := p8
                have ST9 := p9
                have ST10 := p10
                have ST11 := p11
                have ST12 := p12
                have ST13 := p13
                have ST14 := p14
                have ST15 := p15
                have ST16 := p16
                have ST17 := p17
                have ST18 := p18
                have ST19 := p19
                have ST20 := p20
                have ST21 := p21
                have ST22 := p22
                have ST23 := p23
                have ST24 := p24
                have ST25 := p25
                have ST26 := p26
                have ST27 := p27
                have ST28 := p28
                refine wpOp_step rfl fun K hK => ?_
                clear hd hs hi hl
                go_simp
                refine hK _ _ ⟨_, _, _, _, _, _, _, _, _, _, _, _, _, _, _, _, _, _, _, _, _, _, _, _, _, _, _, _, _, rfl, hG, fun h => ST0 (OL 0 (by decide) h), fun h => ST1 (OL 1 (by decide) h), fun h => ST2 (OL 2 (by decide) h), fun h => ST3 (OL 3 (by decide) h), fun h => ST4 (OL 4 (by decide) h), fun h => ST5 (OL 5 (by decide) h), fun h => ST6 (OL 6 (by decide) h), fun h => ST7 (OL 7 (by decide) h), fun h => ST8 (OL 8 (by decide) h), fun h => ST9 (OL 9 (by decide) h), fun h => ST10 (OL 10 (by decide) h), fun h => ST11 (OL 11 (by decide) h), fun h => ST12 (OL 12 (by decide) h), fun _ => rfl, fun h => ST14 (OL 14 (by decide) h), fun h => ST15 (OL 15 (by decide) h), fun h => ST16 (OL 16 (by decide) h), fun h => ST17 (OL 17 (by decide) h), fun h => ST18 (OL 18 (by decide) h), fun h => ST19 (OL 19 (by decide) h), fun h => ST20 (OL 20 (by decide) h), fun h => ST21 (OL 21 (by decide) h), fun h => ST22 (OL 22 (by decide) h), fun h => ST23 (OL 23 (by decide) h), fun h => ST24 (OL 24 (by decide) h), fun h => ST25 (OL 25 (by decide) h), fun h => ST26 (OL 26 (by decide) h), fun h => ST27 (OL 27 (by decide) h), fun h => ST28 (OL 28 (by decide) h)⟩
              · have hLf : L.getD 14 false = false := getD_false hl (by rw [hs]; decide)
                have hsz : 14 < L.size := by rw [hs]; decide
                have OL : ∀ j, j ≠ 14 → (L.setIfInBounds 14 true).getD j false = true → L.getD j false = true := fun j hj h => by rw [getD_setB _ _ _ _ hsz, if_neg hj] at h; exact h
                have d12 := hd _ rfl ⟨12, .guard⟩ (by simp) rfl
                obtain rfl := p12 d12
                have ST0 := p0
                have ST1 := p1
                have ST2 := p2
                have ST3 := p3
                have ST4 := p4
                have ST5 := p5
                have ST6 := p6
                have ST7 := p7
                have ST8 := p8
                have ST9 := p9
                have ST10 := p10
                have ST11 := p11
                have ST12 := p12
                have ST13 := p13
                have ST14 := p14
                have ST15 := p15
                have ST16 := p16
                have ST17 := p17
                have ST18 := p18
                have ST19 := p19
                have ST20 := p20
                have ST21 := p21
                have ST22 := p22
                have ST23 := p23
                have ST24 := p24
                have ST25 := p25
                have ST26 := p26
                have ST27 := p27
                have ST28 := p28
                refine wpOp_step rfl fun K hK => ?_
                clear hd hs hi hl
                go_simp
                refine hK _ _ ⟨_, _, _, _, _, _, _, _, _, _, _, _, _, _, _, _, _, _, _, _, _, _, _, _, _, _, _, _, _, rfl, hG, fun h => ST0 (OL 0 (by decide) h), fun h => ST1 (OL 1 (by decide) h), fun h => ST2 (OL 2 (by decide) h), fun h => ST3 (OL 3 (by decide) h), fun h => ST4 (OL 4 (by decide) h), fun h => ST5 (OL 5 (by decide) h), fun h => ST6 (OL 6 (by decide) h), fun h => ST7 (OL 7 (by decide) h), fun h => ST8 (OL 8 (by decide) h), fun h => ST9 (OL 9 (by decide) h), fun h => ST10 (OL 10 (by decide) h), fun h => ST11 (OL 11 (by decide) h), fun h => ST12 (OL 12 (by decide) h), fun h => ST13 (OL 13 (by decide) h), fun _ => rfl, fun h => ST15 (OL 15 (by decide) h), fun h => ST16 (OL 16 (by decide) h), fun h => ST17 (OL 17 (by decide) h), fun h => ST18 (OL 18 (by decide) h), fun h => ST19 (OL 19 (by decide) h), fun h => ST20 (OL 20 (by decide) h), fun h => ST21 (OL 21 (by decide) h), fun h => ST22 (OL 22 (by decide) h), fun h => ST23 (OL 23 (by decide) h), fun h => ST24 (OL 24 (by decide) h), fun h => ST25 (OL 25 (by decide) h), fun h => ST26 (OL 26 (by decide) h), fun h => ST27 (OL 27 (by decide) h), fun h => ST28 (OL 28 (by decide) h)⟩
              · have hLf : L.getD 15 false = false := getD_false hl (by rw [hs]; decide)
                have hsz : 15 < L.size := by rw [hs]; decide
                have OL : ∀ j, j ≠ 15 → (L.setIfInBounds 15 true).getD j false = true → L.getD j false = true := fun j hj h => by rw [getD_setB _ _ _ _ hsz, if_neg hj] at h; exact h
                have d13 := hd _ rfl ⟨13, .data⟩ (by simp) rfl
                have d14 := hd _ rfl ⟨14, .data⟩ (by simp) rfl
                have d12 := hd _ rfl ⟨12, .guard⟩ (by simp) rfl
                obtain rfl := p13 d13
                obtain rfl := p14 d14
                obtain rfl := p12 d12
                have ST0 := p0
                have ST1 := p1
                have ST2 := p2
                have ST3 := p3
                have ST4 := p4
                have ST5 := p5
                have ST6 := p6
                have ST7 := p7
                have ST8 := p8
                have ST9 := p9
                have ST10 := p10
                have ST11 := p11
                have ST12 := p12
                have ST13 := p13
                have ST14 := p14
                have ST15 := p15
                have ST16 := p16
                have ST17 := p17
                have ST18 := p18
                have ST19 := p19
                have ST20 := p20
                have ST21 := p21
                have ST22 := p22
                have ST23 := p23
                have ST24 := p24
                have ST25 := p25
                have ST26 := p26
                have ST27 := p27
                have ST28 := p28
                refine wpOp_step rfl fun K hK => ?_
                clear hd hs hi hl
                go_simp
                refine hK _ _ ⟨_, _, _, _, _, _, _, _, _, _, _, _, _, _, _, _, _, _, _, _, _, _, _, _, _, _, _, _, _, rfl, hG, fun h => ST0 (OL 0 (by decide) h), fun h => ST1 (OL 1 (by decide) h), fun h => ST2 (OL 2 (by decide) h), fun h => ST3 (OL 3 (by decide) h), fun h => ST4 (OL 4 (by decide) h), fun h => ST5 (OL 5 (by decide) h), fun h => ST6 (OL 6 (by decide) h), fun h => ST7 (OL 7 (by decide) h), fun h => ST8 (OL 8 (by decide) h), fun h => ST9 (OL 9 (by decide) h), fun h => ST10 (OL 10 (by decide) h), fun h => ST11 (OL 11 (by decide) h), fun h => ST12 (OL 12 (by decide) h), fun h => ST13 (OL 13 (by decide) h), fun h => ST14 (OL 14 (by decide) h), fun _ => by first | rfl | simp [q2], fun h => ST16 (OL 16 (by decide) h), fun h => ST17 (OL 17 (by decide) h), fun h => ST18 (OL 18 (by decide) h), fun h => ST19 (OL 19 (by decide) h), fun h => ST20 (OL 20 (by decide) h), fun h => ST21 (OL 21 (by decide) h), fun h => ST22 (OL 22 (by decide) h), fun h => ST23 (OL 23 (by decide) h), fun h => ST24 (OL 24 (by decide) h), fun h => ST25 (OL 25 (by decide) h), fun h => ST26 (OL 26 (by decide) h), fun h => ST27 (OL 27 (by decide) h), fun h => ST28 (OL 28 (by decide) h)⟩
              · have hLf : L.getD 16 false = false := getD_false hl (by rw [hs]; decide)
                have hsz : 16 < L.size := by rw [hs]; decide
                have OL : ∀ j, j ≠ 16 → (L.setIfInBounds 16 true).getD j false = true → L.getD j false = true := fun j hj h => by rw [getD_setB _ _ _ _ hsz, if_neg hj] at h; exact h
                have d15 := hd _ rfl ⟨15, .data⟩ (by simp) rfl
                have d12 := hd _ rfl ⟨12, .guard⟩ (by simp) rfl
                obtain rfl := p15 d15
                obtain rfl := p12 d12
                have ST0 := p0
                have ST1 := p1
                have ST2 := p2
                have ST3 := p3
                have ST4 := p4
                have ST5 := p5
                have ST6 := p6
                have ST7 := p7
                have ST8 := p8
                have ST9 := p9
                have ST10 := p10
                have ST11 := p11
                have ST12 := p12
                have ST13 := p13
                have ST14 := p14
                have ST15 := p15
                have ST16 := p16
                have ST17 := p17
                have ST18 := p18
                have ST19 := p19
                have ST20 := p20
                have ST21 := p21
                have ST22 := p22
                have ST23 := p23
                have ST24 := p24
                have ST25 := p25
                have ST26 := p26
                have ST27 := p27
                have ST28 := p28
                refine wpOp_step rfl fun K hK => ?_
                clear hd hs hi hl
                go_simp
                refine hK _ _ ⟨_, _, _, _, _, _, _, _, _, _, _, _, _, _, _, _, _, _, _, _, _, _, _, _, _, _, _, _, _, rfl, hG, fun h => ST0 (OL 0 (by decide) h), fun h => ST1 (OL 1 (by decide) h), fun h => ST2 (OL 2 (by decide) h), fun h => ST3 (OL 3 (by decide) h), fun h => ST4 (OL 4 (by decide) h), fun h => ST5 (OL 5 (by decide) h), fun h => ST6 (OL 6 (by decide) h), fun h => ST7 (OL 7 (by decide) h), fun h => ST8 (OL 8 (by decide) h), fun h => ST9 (OL 9 (by decide) h), fun h => ST10 (OL 10 (by decide) h), fun h => ST11 (OL 11 (by decide) h), fun h => ST12 (OL 12 (by decide) h), fun h => ST13 (OL 13 (by decide) h), fun h => ST14 (OL 14 (by decide) h), fun h => ST15 (OL 15 (by decide) h), fun _ => rfl, fun h => ST17 (OL 17 (by decide) h), fun h => ST18 (OL 18 (by decide) h), fun h => ST19 (OL 19 (by decide) h), fun h => ST20 (OL 20 (by decide) h), fun h => ST21 (OL 21 (by decide) h), fun h => ST22 (OL 22 (by decide) h), fun h => ST23 (OL 23 (by decide) h), fun h => ST24 (OL 24 (by decide) h), fun h => ST25 (OL 25 (by decide) h), fun h => ST26 (OL 26 (by decide) h), fun h => ST27 (OL 27 (by decide) h), fun h => ST28 (OL 28 (by decide) h)⟩
              · have hLf : L.getD 17 false = false := getD_false hl (by rw [hs]; decide)
                have hsz : 17 < L.size := by rw [hs]; decide
                have OL : ∀ j, j ≠ 17 → (L.setIfInBounds 17 true).getD j false = true → L.getD j false = true := fun j hj h => by rw [getD_setB _ _ _ _ hsz, if_neg hj] at h; exact h
                have d16 := hd _ rfl ⟨16, .guard⟩ (by simp) rfl
                obtain rfl := p16 d16
                have ST0 := p0
                have ST1 := p1
                have ST2 := p2
                have ST3 := p3
                have ST4 := p4
                have ST5 := p5
                have ST6 := p6
                have ST7 := p7
                have ST8 := p8
                have ST9 := p9
                have ST10 := p10
                have ST11 := p11
                have ST12 := p12
                have ST13 := p13
                have ST14 := p14
                have ST15 := p15
                have ST16 := p16
                have ST17 := p17
                have ST18 := p18
                have ST19 := p19
                have ST20 := p20
                have ST21 := p21
                have ST22 := p22
                have ST23 := p23
                have ST24 := p24
                have ST25 := p25
                have ST26 := p26
                have ST27 := p27
                have ST28 := p28
                refine wpOp_step rfl fun K hK => ?_
                clear hd hs hi hl
                go_simp
                refine hK _ _ ⟨_, _, _, _, _, _, _, _, _, _, _, _, _, _, _, _, _, _, _, _, _, _, _, _, _, _, _, _, _, rfl, hG, fun h => ST0 (OL 0 (by decide) h), fun h => ST1 (OL 1 (by decide) h), fun h => ST2 (OL 2 (by decide) h), fun h => ST3 (OL 3 (by decide) h), fun h => ST4 (OL 4 (by decide) h), fun h => ST5 (OL 5 (by decide) h), fun h => ST6 (OL 6 (by decide) h), fun h => ST7 (OL 7 (by decide) h), fun h => ST8 (OL 8 (by decide) h), fun h => ST9 (OL 9 (by decide) h), fun h => ST10 (OL 10 (by decide) h), fun h => ST11 (OL 11 (by decide) h), fun h => ST12 (OL 12 (by decide) h), fun h => ST13 (OL 13 (by decide) h), fun h => ST14 (OL 14 (by decide) h), fun h => ST15 (OL 15 (by decide) h), fun h => ST16 (OL 16 (by decide) h), fun _ => rfl, fun h => ST18 (OL 18 (by decide) h), fun h => ST19 (OL 19 (by decide) h), fun h => ST20 (OL 20 (by decide) h), fun h => ST21 (OL 21 (by decide) h), fun h => ST22 (OL 22 (by decide) h), fun h => ST23 (OL 23 (by decide) h), fun h => ST24 (OL 24 (by decide) h), fun h => ST25 (OL 25 (by decide) h), fun h => ST26 (OL 26 (by decide) h), fun h => ST27 (OL 27 (by decide) h), fun h => ST28 (OL 28 (by decide) h)⟩
              · have hLf : L.getD 18 false = false := getD_false hl (by rw [hs]; decide)
                have hsz : 18 < L.size := by rw [hs]; decide
                have OL : ∀ j, j ≠ 18 → (L.setIfInBounds 18 true).getD j false = true → L.getD j false = true := fun j hj h => by rw [getD_setB _ _ _ _ hsz, if_neg hj] at h; exact h
                have d16 := hd _ rfl ⟨16, .guard⟩ (by simp) rfl
                obtain rfl := p16 d16
                have ST0 := p0
                have ST1 := p1
                have ST2 := p2
                have ST3 := p3
                have ST4 := p4
                have ST5 := p5
                have ST6 := p6
                have ST7 := p7
                have ST8 := p8
                have ST9 := p9
                have ST10 := p10
                have ST11 := p11
                have ST12 := p12
                have ST13 := p13
                have ST14 := p14
                have ST15 := p15
                have ST16 := p16
                have ST17 := p17
                have ST18 := p18
                have ST19 := p19
                have ST20 := p20
                have ST21 := p21
                have ST22 := p22
                have ST23 := p23
                have ST24 := p24
                have ST25 := p25
                have ST26 := p26
                have ST27 := p27
                have ST28 := p28
                refine wpOp_step rfl fun K hK => ?_
                clear hd hs hi hl
                go_simp
                refine hK _ _ ⟨_, _, _, _, _, _, _, _, _, _, _, _, _, _, _, _, _, _, _, _, _, _, _, _, _, _, _, _, _, rfl, hG, fun h => ST0 (OL 0 (by decide) h), fun h => ST1 (OL 1 (by decide) h), fun h => ST2 (OL 2 (by decide) h), fun h => ST3 (OL 3 (by decide) h), fun h => ST4 (OL 4 (by decide) h), fun h => ST5 (OL 5 (by decide) h), fun h => ST6 (OL 6 (by decide) h), fun h => ST7 (OL 7 (by decide) h), fun h => ST8 (OL 8 (by decide) h), fun h => ST9 (OL 9 (by decide) h), fun h => ST10 (OL 10 (by decide) h), fun h => ST11 (OL 11 (by decide) h), fun h => ST12 (OL 12 (by decide) h), fun h => ST13 (OL 13 (by decide) h), fun h => ST14 (OL 14 (by decide) h), fun h => ST15 (OL 15 (by decide) h), fun h => ST16 (OL 16 (by decide) h), fun h => ST17 (OL 17 (by decide) h), fun _ => rfl, fun h => ST19 (OL 19 (by decide) h), fun h => ST20 (OL 20 (by decide) h), fun h => ST21 (OL 21 (by decide) h), fun h => ST22 (OL 22 (by decide) h), fun h => ST23 (OL 23 (by decide) h), fun h => ST24 (OL 24 (by decide) h), fun h => ST25 (OL 25 (by decide) h), fun h => ST26 (OL 26 (by decide) h), fun h => ST27 (OL 27 (by decide) h), fun h => ST28 (OL 28 (by decide) h)⟩
              · have hLf : L.getD 19 false = false := getD_false hl (by rw [hs]; decide)
                have hsz : 19 < L.size := by rw [hs]; decide
                have OL : ∀ j, j ≠ 19 → (L.setIfInBounds 19 true).getD j false = true → L.getD j false = true := fun j hj h => by rw [getD_setB _ _ _ _ hsz, if_neg hj] at h; exact h
                have d16 := hd _ rfl ⟨16, .guard⟩ (by simp) rfl
                obtain rfl := p16 d16
                have ST0 := p0
                have ST1 := p1
                have ST2 := p2
                have ST3 := p3
                have ST4 := p4
                have ST5 := p5
                have ST6 := p6
                have ST7 := p7
                have ST8 := p8
                have ST9 := p9
                have ST10 := p10
                have ST11 := p11
                have ST12 := p12
                have ST13 := p13
                have ST14 := p14
                have ST15 := p15
                have ST16 := p16
                have ST17 := p17
                have ST18 := p18
                have ST19 := p19
                have ST20 := p20
                have ST21 := p21
                have ST22 := p22
                have ST23 := p23
                have ST24 := p24
                have ST25 := p25
                have ST26 := p26
                have ST27 := p27
                have ST28 := p28
                refine wpOp_step rfl fun K hK => ?_
                clear hd hs hi hl
                go_simp
                refine hK _ _ ⟨_, _, _, _, _, _, _, _, _, _, _, _, _, _, _, _, _, _, _, _, _, _, _, _, _, _, _, _, _, rfl, hG, fun h => ST0 (OL 0 (by decide) h), fun h => ST1 (OL 1 (by decide) h), fun h => ST2 (OL 2 (by decide) h), fun h => ST3 (OL 3 (by decide) h), fun h => ST4 (OL 4 (by decide) h), fun h => ST5 (OL 5 (by decide) h), fun h => ST6 (OL 6 (by decide) h), fun h => ST7 (OL 7 (by decide) h), fun h => ST8 (OL 8 (by decide) h), fun h => ST9 (OL 9 (by decide) h), fun h => ST10 (OL 10 (by decide) h), fun h => ST11 (OL 11 (by decide) h), fun h => ST12 (OL 12 (by decide) h), fun h => ST13 (OL 13 (by decide) h), fun h => ST14 (OL 14 (by decide) h), fun h => ST15 (OL 15 (by decide) h), fun h => ST16 (OL 16 (by decide) h), fun h => ST17 (OL 17 (by decide) h), fun h => ST18 (OL 18 (by decide) h), fun _ => rfl, fun h => ST20 (OL 20 (by decide) h), fun h => ST21 (OL 21 (by decide) h), fun h => ST22 (OL 22 (by decide) h), fun h => ST23 (OL 23 (by decide) h), fun h => ST24 (OL 24 (by decide) h), fun h => ST25 (OL 25 (by decide) h), fun h => ST26 (OL 26 (by decide) h), fun h => ST27 (OL 27 (by decide) h), fun h => ST28 (OL 28 (by decide) h)⟩
              · have hLf : L.getD 20 false = false := getD_false hl (by rw [hs]; decide)
                have hsz : 20 < L.size := by rw [hs]; decide
                have OL : ∀ j, j ≠ 20 → (L.setIfInBounds 20 true).getD j false = true → L.getD j false = true := fun j hj h => by rw [getD_setB _ _ _ _ hsz, if_neg hj] at h; exact h
                have d16 := hd _ rfl ⟨16, .guard⟩ (by simp) rfl
                obtain rfl := p16 d16
                have ST0 := p0
                have ST1 := p1
                have ST2 := p2
                have ST3 := p3
                have ST4 := p4
                have ST5 := p5
                have ST6 := p6
                have ST7 := p7
                have ST8 := p8
                have ST9 := p9
                have ST10 := p10
                have ST11 := p11
                have ST12 := p12
                have ST13 := p13
                have ST14 := p14
                have ST15 := p15
                have ST16 := p16
                have ST17 := p17
                have ST18 := p18
                have ST19 := p19
                have ST20 := p20
                have ST21 := p21
                have ST22 := p22
                have ST23 := p23
                have ST24 := p24
                have ST25 := p25
                have ST26 := p26
                have ST27 := p27
                have ST28 := p28
                refine wpOp_step rfl fun K hK => ?_
                clear hd hs hi hl
                go_simp
                refine hK _ _ ⟨_, _, _, _, _, _, _, _, _, _, _, _, _, _, _, _, _, _, _, _, _, _, _, _, _, _, _, _, _, rfl, hG, fun h => ST0 (OL 0 (by decide) h), fun h => ST1 (OL 1 (by decide) h), fun h => ST2 (OL 2 (by decide) h), fun h => ST3 (OL 3 (by decide) h), fun h => ST4 (OL 4 (by decide) h), fun h => ST5 (OL 5 (by decide) h), fun h => ST6 (OL 6 (by decide) h), fun h => ST7 (OL 7 (by decide) h), fun h => ST8 (OL 8 (by decide) h), fun h => ST9 (OL 9 (by decide) h), fun h => ST10 (OL 10 (by decide) h), fun h => ST11 (OL 11 (by decide) h), fun h => ST12 (OL 12 (by decide) h), fun h => ST13 (OL 13 (by decide) h), fun h => ST14 (OL 14 (by decide) h), fun h => ST15 (OL 15 (by decide) h), fun h => ST16 (OL 16 (by decide) h), fun h => ST17 (OL 17 (by decide) h), fun h => ST18 (OL 18 (by decide) h), fun h => ST19 (OL 19 (by decide) h), fun _ => rfl, fun h => ST21 (OL 21 (by decide) h), fun h => ST22 (OL 22 (by decide) h), fun h => ST23 (OL 23 (by decide) h), fun h => ST24 (OL 24 (by decide) h), fun h => ST25 (OL 25 (by decide) h), fun h => ST26 (OL 26 (by decide) h), fun h => ST27 (OL 27 (by decide) h), fun h => ST28 (OL 28 (by decide) h)⟩
              · have hLf : L.getD 21 false = false := getD_false hl (by rw [hs]; decide)
                have hsz : 21 < L.size := by rw [hs]; decide
                have OL : ∀ j, j ≠ 21 → (L.setIfInBounds 21 true).getD j false = true → L.getD j false = true := fun j hj h => by rw [getD_setB _ _ _ _ hsz, if_neg hj] at h; exact h
                have d16 := hd _ rfl ⟨16, .guard⟩ (by simp) rfl
                obtain rfl := p16 d16
                have ST0 := p0
                have ST1 := p1
                have ST2 := p2
                have ST3 := p3
                have ST4 := p4
                have ST5 := p5
                have ST6 := p6
                have ST7 := p7
                have ST8 := p8
                have ST9 := p9
                have ST10 := p10
                have ST11 := p11
                have ST12 := p12
                have ST13 := p13
                have ST14 := p14
                have ST15 := p15
                have ST16 := p16
                have ST17 := p17
                have ST18 := p18
                have ST19 := p19
                have ST20 := p20
                have ST21 := p21
                have ST22 := p22
                have ST23 := p23
                have ST24 := p24
                have ST25 := p25
                have ST26 := p26
                have ST27 := p27
                have ST28 := p28
                refine wpOp_step rfl fun K hK => ?_
                clear hd hs hi hl
                go_simp
                refine hK _ _ ⟨_, _, _, _, _, _, _, _, _, _, _, _, _, _, _, _, _, _, _, _, _, _, _, _, _, _, _, _, _, rfl, hG, fun h => ST0 (OL 0 (by decide) h), fun h => ST1 (OL 1 (by decide) h), fun h => ST2 (OL 2 (by decide) h), fun h => ST3 (OL 3 (by decide) h), fun h => ST4 (OL 4 (by decide) h), fun h => ST5 (OL 5 (by decide) h), fun h => ST6 (OL 6 (by decide) h), fun h => ST7 (OL 7 (by decide) h), fun h => ST8 (OL 8 (by decide) h), fun h => ST9 (OL 9 (by decide) h), fun h => ST10 (OL 10 (by decide) h), fun h => ST11 (OL 11 (by decide) h), fun h => ST12 (OL 12 (by decide) h), fun h => ST13 (OL 13 (by decide) h), fun h => ST14 (OL 14 (by decide) h), fun h => ST15 (OL 15 (by decide) h), fun h => ST16 (OL 16 (by decide) h), fun h => ST17 (OL 17 (by decide) h), fun h => ST18 (OL 18 (by decide) h), fun h => ST19 (OL 19 (by decide) h), fun h => ST20 (OL 20 (by decide) h), fun _ => rfl, fun h => ST22 (OL 22 (by decide) h), fun h => ST23 (OL 23 (by decide) h), fun h => ST24 (OL 24 (by decide) h), fun h => ST25 (OL 25 (by decide) h), fun h => ST26 (OL 26 (by decide) h), fun h => ST27 (OL 27 (by decide) h), fun h => ST28 (OL 28 (by decide) h)⟩
              · have hLf : L.getD 22 false = false := getD_false hl (by rw [hs]; decide)
                have hsz : 22 < L.size := by rw [hs]; decide
                have OL : ∀ j, j ≠ 22 → (L.setIfInBounds 22 true).getD j false = true → L.getD j false = true := fun j hj h => by rw [getD_setB _ _ _ _ hsz, if_neg hj] at h; exact h
                have d16 := hd _ rfl ⟨16, .guard⟩ (by simp) rfl
                obtain rfl := p16 d16
                have ST0 := p0
                have ST1 := p1
                have ST2 := p2
                have ST3 := p3
                have ST4 := p4
                have ST5 := p5
                have ST6 := p6
                have ST7 := p7
                have ST8 := p8
                have ST9 := p9
                have ST10 := p10
                have ST11 := p11
                have ST12 := p12
                have ST13 := p13
                have ST14 := p14
                have ST15 := p15
                have ST16 := p16
                have ST17 := p17
                have ST18 := p18
                have ST19 := p19
                have ST20 := p20
                have ST21 := p21
                have ST22 := p22
                have ST23 := p23
                have ST24 := p24
                have ST25 := p25
                have ST26 := p26
                have ST27 := p27
                have ST28 := p28
                refine wpOp_step rfl fun K hK => ?_
                clear hd hs hi hl
                go_simp
                refine hK _ _ ⟨_, _, _, _, _, _, _, _, _, _, _, _, _, _, _, _, _, _, _, _, _, _, _, _, _, _, _, _, _, rfl, hG, fun h => ST0 (OL 0 (by decide) h), fun h => ST1 (OL 1 (by decide) h), fun h => ST2 (OL 2 (by decide) h), fun h => ST3 (OL 3 (by decide) h), fun h => ST4 (OL 4 (by decide) h), fun h => ST5 (OL 5 (by decide) h), fun h => ST6 (OL 6 (by decide) h), fun h => ST7 (OL 7 (by decide) h), fun h => ST8 (OL 8 (by decide) h), fun h => ST9 (OL 9 (by decide) h), fun h => ST10 (OL 10 (by decide) h), fun h => ST11 (OL 11 (by decide) h), fun h => ST12 (OL 12 (by decide) h), fun h => ST13 (OL 13 (by decide) h), fun h => ST14 (OL 14 (by decide) h), fun h => ST15 (OL 15 (by decide) h), fun h => ST16 (OL 16 (by decide) h), fun h => ST17 (OL 17 (by decide) h), fun h => ST18 (OL 18 (by decide) h), fun h => ST19 (OL 19 (by decide) h), fun h => ST20 (OL 20 (by decide) h), fun h => ST21 (OL 21 (by decide) h), fun _ => rfl, fun h => ST23 (OL 23 (by decide) h), fun h => ST24 (OL 24 (by decide) h), fun h => ST25 (OL 25 (by decide) h), fun h => ST26 (OL 26 (by decide) h), fun h => ST27 (OL 27 (by decide) h), fun h => ST28 (OL 28 (by decide) h)⟩
              · have hLf : L.getD 23 false = false := getD_false hl (by rw [hs]; decide)
                have hsz : 23 < L.size := by rw [hs]; decide
                have OL : ∀ j, j ≠ 23 → (L.setIfInBounds 23 true).getD j false = true → L.getD j false = true := fun j hj h => by rw [getD_setB _ _ _ _ hsz, if_neg hj] at h; exact h
                have d16 := hd _ rfl ⟨16, .guard⟩ (by simp) rfl
                obtain rfl := p16 d16
                have ST0 := p0
                have ST1 := p1
                have ST2 := p2
                have ST3 := p3
                have ST4 := p4
                have ST5 := p5
                have ST6 := p6
                have ST7 := p7
                have ST8 := p8
                have ST9 := p9
                have ST10 := p10
                have ST11 := p11
                have ST12 := p12
                have ST13 := p13
                have ST14 := p14
                have ST15 := p15
                have ST16 := p16
                have ST17 := p17
                have ST18 := p18
                have ST19 := p19
                have ST20 := p20
                have ST21 := p21
                have ST22 := p22
                have ST23 := p23
                have ST24 := p24
                have ST25 := p25
                have ST26 := p26
                have ST27 := p27
                have ST28 := p28
                refine wpOp_step rfl fun K hK => ?_
                clear hd hs hi hl
                go_simp
                refine hK _ _ ⟨_, _, _, _, _, _, _, _, _, _, _, _, _, _, _, _, _, _, _, _, _, _, _, _, _, _, _, _, _, rfl, hG, fun h => ST0 (OL 0 (by decide) h), fun h => ST1 (OL 1 (by decide) h), fun h => ST2 (OL 2 (by decide) h), fun h => ST3 (OL 3 (by decide) h), fun h => ST4 (OL 4 (by decide) h), fun h => ST5 (OL 5 (by decide) h), fun h => ST6 (OL 6 (by decide) h), fun h => ST7 (OL 7 (by decide) h), fun h => ST8 (OL 8 (by decide) h), fun h => ST9 (OL 9 (by decide) h), fun h => ST10 (OL 10 (by decide) h), fun h => ST11 (OL 11 (by decide) h), fun h => ST12 (OL 12 (by decide) h), fun h => ST13 (OL 13 (by decide) h), fun h => ST14 (OL 14 (by decide) h), fun h => ST15 (OL 15 (by decide) h), fun h => ST16 (OL 16 (by decide) h), fun h => ST17 (OL 17 (by decide) h), fun h => ST18 (OL 18 (by decide) h), fun h => ST19 (OL 19 (by decide) h), fun h => ST20 (OL 20 (by decide) h), fun h => ST21 (OL 21 (by decide) h), fun h => ST22 (OL 22 (by decide) h), fun _ => rfl, fun h => ST24 (OL 24 (by decide) h), fun h => ST25 (OL 25 (by decide) h), fun h => ST26 (OL 26 (by decide) h), fun h => ST27 (OL 27 (by decide) h), fun h => ST28 (OL 28 (by decide) h)⟩
              · have hLf : L.getD 24 false = false := getD_false hl (by rw [hs]; decide)
                have hsz : 24 < L.size := by rw [hs]; decide
                have OL : ∀ j, j ≠ 24 → (L.setIfInBounds 24 true).getD j false = true → L.getD j false = true := fun j hj h => by rw [getD_setB _ _ _ _ hsz, if_neg hj] at h; exact h
                have d16 := hd _ rfl ⟨16, .guard⟩ (by simp) rfl
                obtain rfl := p16 d16
                have ST0 := p0
                have ST1 := p1
                have ST2 := p2
                have ST3 := p3
                have ST4 := p4
                have ST5 := p5
                have ST6 := p6
                have ST7 := p7
                have ST8 := p8
                have ST9 := p9
                have ST10 := p10
                have ST11 := p11
                have ST12 := p12
                have ST13 := p13
                have ST14 := p14
                have ST15 := p15
                have ST16 := p16
                have ST17 := p17
                have ST18 := p18
                have ST19 := p19
                have ST20 := p20
                have ST21 := p21
                have ST22 := p22
                have ST23 := p23
                have ST24 := p24
                have ST25 := p25
                have ST26 := p26
                have ST27 := p27
                have ST28 := p28
                refine wpOp_step rfl fun K hK => ?_
                clear hd hs hi hl
                go_simp
                refine hK _ _ ⟨_, _, _, _, _, _, _, _, _, _, _, _, _, _, _, _, _, _, _, _, _, _, _, _, _, _, _, _, _, rfl, hG, fun h => ST0 (OL 0 (by decide) h), fun h => ST1 (OL 1 (by decide) h), fun h => ST2 (OL 2 (by decide) h), fun h => ST3 (OL 3 (by decide) h), fun h => ST4 (OL 4 (by decide) h), fun h => ST5 (OL 5 (by decide) h), fun h => ST6 (OL 6 (by decide) h), fun h => ST7 (OL 7 (by decide) h), fun h => ST8 (OL 8 (by decide) h), fun h => ST9 (OL 9 (by decide) h), fun h => ST10 (OL 10 (by decide) h), fun h => ST11 (OL 11 (by decide) h), fun h => ST12 (OL 12 (by decide) h), fun h => ST13 (OL 13 (by decide) h), fun h => ST14 (OL 14 (by decide) h), fun h => ST15 (OL 15 (by decide) h), fun h => ST16 (OL 16 (by decide) h), fun h => ST17 (OL 17 (by decide) h), fun h => ST18 (OL 18 (by decide) h), fun h => ST19 (OL 19 (by decide) h), fun h => ST20 (OL 20 (by decide) h), fun h => ST21 (OL 21 (by decide) h), fun h => ST22 (OL 22 (by decide) h), fun h => ST23 (OL 23 (by decide) h), fun _ => rfl, fun h => ST25 (OL 25 (by decide) h), fun h => ST26 (OL 26 (by decide) h), fun h => ST27 (OL 27 (by decide) h), fun h => ST28 (OL 28 (by decide) h)⟩
              · have hLf : L.getD 25 false = false := getD_false hl (by rw [hs]; decide)
                have hsz : 25 < L.size := by rw [hs]; decide
                have OL : ∀ j, j ≠ 25 → (L.setIfInBounds 25 true).getD j false = true → L.getD j false = true := fun j hj h => by rw [getD_setB _ _ _ _ hsz, if_neg hj] at h; exact h
                have d16 := hd _ rfl ⟨16, .guard⟩ (by simp) rfl
                obtain rfl := p16 d16
                have ST0 := p0
                have ST1 := p1
                have ST2 := p2
                have ST3 := p3
                have ST4 := p4
                have ST5 := p5
                have ST6 := p6
                have ST7 := p7
                have ST8 := p8
                have ST9 := p9
                have ST10 := p10
                have ST11 := p11
                have ST12 := p12
                have ST13 := p13
                have ST14 := p14
                have ST15 := p15
                have ST16 := p16
                have ST17 := p17
                have ST18 := p18
                have ST19 := p19
                have ST20 := p20
                have ST21 := p21
                have ST22 := p22
                have ST23 := p23
                have ST24 := p24
                have ST25 := p25
                have ST26 := p26
                have ST27 := p27
                have ST28 := p28
                refine wpOp_step rfl fun K hK => ?_
                clear hd hs hi hl
                go_simp
                refine hK _ _ ⟨_, _, _, _, _, _, _, _, _, _, _, _, _, _, _, _, _, _, _, _, _, _, _, _, _, _, _, _, _, rfl, hG, fun h => ST0 (OL 0 (by decide) h), fun h => ST1 (OL 1 (by decide) h), fun h => ST2 (OL 2 (by decide) h), fun h => ST3 (OL 3 (by decide) h), fun h => ST4 (OL 4 (by decide) h), fun h => ST5 (OL 5 (by decide) h), fun h => ST6 (OL 6 (by decide) h), fun h => ST7 (OL 7 (by decide) h), fun h => ST8 (OL 8 (by decide) h), fun h => ST9 (OL 9 (by decide) h), fun h => ST10 (OL 10 (by decide) h), fun h => ST11 (OL 11 (by decide) h), fun h => ST12 (OL 12 (by decide) h), fun h => ST13 (OL 13 (by decide) h), fun h => ST14 (OL 14 (by decide) h), fun h => ST15 (OL 15 (by decide) h), fun h => ST16 (OL 16 (by decide) h), fun h => ST17 (OL 17 (by decide) h), fun h => ST18 (OL 18 (by decide) h), fun h => ST19 (OL 19 (by decide) h), fun h => ST20 (OL 20 (by decide) h), fun h => ST21 (OL 21 (by decide) h), fun h => ST22 (OL 22 (by decide) h), fun h => ST23 (OL 23 (by decide) h), fun h => ST24 (OL 24 (by decide) h), fun _ => rfl, fun h => ST26 (OL 26 (by decide) h), fun h => ST27 (OL 27 (by decide) h), fun h => ST28 (OL 28 (by decide) h)⟩
              · have hLf : L.getD 26 false = false := getD_false hl (by rw [hs]; decide)
                have hsz : 26 < L.size := by rw [hs]; decide
                have OL : ∀ j, j ≠ 26 → (L.setIfInBounds 26 true).getD j false = true → L.getD j false = true := fun j hj h => by rw [getD_setB _ _ _ _ hsz, if_neg hj] at h; exact h
                have d16 := hd _ rfl ⟨16, .guard⟩ (by simp) rfl
                obtain rfl := p16 d16
                have ST0 := p0
                have ST1 := p1
                have ST2 := p2
                have ST3 := p3
                have ST4 := p4
                have ST5 := p5
                have ST6 := p6
                have ST7 := p7
                have ST8 := p8
                have ST9 := p9
                have ST10 := p10
                have ST11 := p11
                have ST12 := p12
                have ST13 := p13
                have ST14 := p14
                have ST15 := p15
                have ST16 := p16
                have ST17 := p17
                have ST18 := p18
                have ST19 := p19
                have ST20 := p20
                have ST21 := p21
                have ST22 := p22
                have ST23 := p23
                have ST24 := p24
                have ST25 := p25
                have ST26 := p26
                have ST27 := p27
                have ST28 := p28
                refine wpOp_step rfl fun K hK => ?_
                clear hd hs hi hl
                go_simp
                refine hK _ _ ⟨_, _, _, _, _, _, _, _, _, _, _, _, _, _, _, _, _, _, _, _, _, _, _, _, _, _, _, _, _, rfl, hG, fun h => ST0 (OL 0 (by decide) h), fun h => ST1 (OL 1 (by decide) h), fun h => ST2 (OL 2 (by decide) h), fun h => ST3 (OL 3 (by decide) h), fun h => ST4 (OL 4 (by decide) h), fun h => ST5 (OL 5 (by decide) h), fun h => ST6 (OL 6 (by decide) h), fun h => ST7 (OL 7 (by decide) h), fun h => ST8 (OL 8 (by decide) h), fun h => ST9 (OL 9 (by decide) h), fun h => ST10 (OL 10 (by decide) h), fun h => ST11 (OL 11 (by decide) h), fun h => ST12 (OL 12 (by decide) h), fun h => ST13 (OL 13 (by decide) h), fun h => ST14 (OL 14 (by decide) h), fun h => ST15 (OL 15 (by decide) h), fun h => ST16 (OL 16 (by decide) h), fun h => ST17 (OL 17 (by decide) h), fun h => ST18 (OL 18 (by decide) h), fun h => ST19 (OL 19 (by decide) h), fun h => ST20 (OL 20 (by decide) h), fun h => ST21 (OL 21 (by decide) h), fun h => ST22 (OL 22 (by decide) h), fun h => ST23 (OL 23 (by decide) h), fun h => ST24 (OL 24 (by decide) h), fun h => ST25 (OL 25 (by decide) h), fun _ => rfl, fun h => ST27 (OL 27 (by decide) h), fun h => ST28 (OL 28 (by decide) h)⟩
              · have hLf : L.getD 27 false = false := getD_false hl (by rw [hs]; decide)
                have hsz : 27 < L.size := by rw [hs]; decide
                have OL : ∀ j, j ≠ 27 → (L.setIfInBounds 27 true).getD j false = true → L.getD j false = true := fun j hj h => by rw [getD_setB _ _ _ _ hsz, if_neg hj] at h; exact h
                have d16 := hd _ rfl ⟨16, .data⟩ (by simp) rfl
                have d26 := hd _ rfl ⟨26, .data⟩ (by simp) rfl
                have d12 := hd _ rfl ⟨12, .guard⟩ (by simp) rfl
                obtain rfl := p16 d16
                obtain rfl := p26 d26
                obtain rfl := p12 d12
                have ST0 := p0
                have ST1 := p1
                have ST2 := p2
                have ST3 := p3
                have ST4 := p4
                have ST5 := p5
                have ST6 := p6
                have ST7 := p7
                have ST8 := p8
                have ST9 := p9
                have ST10 := p10
                have ST11 := p11
                have ST12 := p12
                have ST13 := p13
                have ST14 := p14
                have ST15 := p15
                have ST16 := p16
                have ST17 := p17
                have ST18 := p18
                have ST19 := p19
                have ST20 := p20
                have ST21 := p21
                have ST22 := p22
                have ST23 := p23
                have ST24 := p24
                have ST25 := p25
                have ST26 := p26
                have ST27 := p27
                have ST28 := p28
                refine wpOp_step rfl fun K hK => ?_
                clear hd hs hi hl
                go_simp
                refine hK _ _ ⟨_, _, _, _, _, _, _, _, _, _, _, _, _, _, _, _, _, _, _, _, _, _, _, _, _, _, _, _, _, rfl, hG, fun h => ST0 (OL 0 (by decide) h), fun h => ST1 (OL 1 (by decide) h), fun h => ST2 (OL 2 (by decide) h), fun h => ST3 (OL 3 (by decide) h), fun h => ST4 (OL 4 (by decide) h), fun h => ST5 (OL 5 (by decide) h), fun h => ST6 (OL 6 (by decide) h), fun h => ST7 (OL 7 (by decide) h), fun h => ST8 (OL 8 (by decide) h), fun h => ST9 (OL 9 (by decide) h), fun h => ST10 (OL 10 (by decide) h), fun h => ST11 (OL 11 (by decide) h), fun h => ST12 (OL 12 (by decide) h), fun h => ST13 (OL 13 (by decide) h), fun h => ST14 (OL 14 (by decide) h), fun h => ST15 (OL 15 (by decide) h), fun h => ST16 (OL 16 (by decide) h), fun h => ST17 (OL 17 (by decide) h), fun h => ST18 (OL 18 (by decide) h), fun h => ST19 (OL 19 (by decide) h), fun h => ST20 (OL 20 (by decide) h), fun h => ST21 (OL 21 (by decide) h), fun h => ST22 (OL 22 (by decide) h), fun h => ST23 (OL 23 (by decide) h), fun h => ST24 (OL 24 (by decide) h), fun h => ST25 (OL 25 (by decide) h), fun h => ST26 (OL 26 (by decide) h), fun _ => rfl, fun h => ST28 (OL 28 (by decide) h)⟩
              · have hLf : L.getD 28 false = false := getD_false hl (by rw [hs]; decide)
                have hsz : 28 < L.size := by rw [hs]; decide
                have OL : ∀ j, j ≠ 28 → (L.setIfInBounds 28 true).getD j false = true → L.getD j false = true := fun j hj h => by rw [getD_setB _ _ _ _ hsz, if_neg hj] at h; exact h
                have d12 := hd _ rfl ⟨12, .data⟩ (by simp) rfl
                have d27 := hd _ rfl ⟨27, .data⟩ (by simp) rfl
                obtain rfl := p12 d12
                obtain rfl := p27 d27
                have ST0 := p0
                have ST1 := p1
                have ST2 := p2
                have ST3 := p3
                have ST4 := p4
                have ST5 := p5
                have ST6 := p6
                have ST7 := p7
                have ST8 := p8
                have ST9 := p9
                have ST10 := p10
                have ST11 := p11
                have ST12 := p12
                have ST13 := p13
                have ST14 := p14
                have ST15 := p15
                have ST16 := p16
                have ST17 := p17
                have ST18 := p18
                have ST19 := p19
                have ST20 := p20
                have ST21 := p21
                have ST22 := p22
                have ST23 := p23
                have ST24 := p24
                have ST25 := p25
                have ST26 := p26
                have ST27 := p27
                have ST28 := p28
                refine wpOp_step rfl fun K hK => ?_
                clear hd hs hi hl
                go_simp
                refine hK _ _ ⟨_, _, _, _, _, _, _, _, _, _, _, _, _, _, _, _, _, _, _, _, _, _, _, _, _, _, _, _, _, rfl, hG, fun h => ST0 (OL 0 (by decide) h), fun h => ST1 (OL 1 (by decide) h), fun h => ST2 (OL 2 (by decide) h), fun h => ST3 (OL 3 (by decide) h), fun h => ST4 (OL 4 (by decide) h), fun h => ST5 (OL 5 (by decide) h), fun h => ST6 (OL 6 (by decide) h), fun h => ST7 (OL 7 (by decide) h), fun h => ST8 (OL 8 (by decide) h), fun h => ST9 (OL 9 (by decide) h), fun h => ST10 (OL 10 (by decide) h), fun h => ST11 (OL 11 (by decide) h), fun h => ST12 (OL 12 (by decide) h), fun h => ST13 (OL 13 (by decide) h), fun h => ST14 (OL 14 (by decide) h), fun h => ST15 (OL 15 (by decide) h), fun h => ST16 (OL 16 (by decide) h), fun h => ST17 (OL 17 (by decide) h), fun h => ST18 (OL 18 (by decide) h), fun h => ST19 (OL 19 (by decide) h), fun h => ST20 (OL 20 (by decide) h), fun h => ST21 (OL 21 (by decide) h), fun h => ST22 (OL 22 (by decide) h), fun h => ST23 (OL 23 (by decide) h), fun h => ST24 (OL 24 (by decide) h), fun h => ST25 (OL 25 (by decide) h), fun h => ST26 (OL 26 (by decide) h), fun h => ST27 (OL 27 (by decide) h), fun _ => rfl⟩
            · rintro L act W ⟨u55, u56, u57, u58, u59, u60, u61, u62, u63, u64, u65, u66, u67, u68, u69, u70, u71, u72, u73, u74, u75, u76, u77, u78, u79, u80, u81, u82, u83, rfl, hG, p0, p1, p2, p3, p4, p5, p6, p7, p8, p9, p10, p11, p12, p13, p14, p15, p16, p17, p18, p19, p20, p21, p22, p23, p24, p25, p26, p27, p28⟩ hall
              have q83 := p28 (hall 28 (by decide))
              subst q83
              have HE := Lib.hid (grown_trans HG.out hG)
              clear hG hall p0 p1 p2 p3 p4 p5 p6 p7 p8 p9 p10 p11 p12 p13 p14 p15 p16 p17 p18 p19 p20 p21 p22 p23 p24 p25 p26 p27 p28
              go_wp2_with fail
              go_roundw
              case rel => exact ⟨k + 1, by omega, by go_num, HE.out⟩
              case measure => simp [intOf]; omega
          · have q1 : ((k : Int) == f) = false := by simpa using hkt
            have q2 : ((k : Int) != f) = true := by simpa using hkt
            obtain ⟨bb, ob, eb, _, r2, s2, k2, _, i2⟩ := (HMM4.out.gnone HG.out HZG.out.2).at_ (i := k) (by rw [HE.out]; omega)
            have HQ : Hid ((mlL ls f).getD k [] = ls.getD k []) := by show _ = _; rw [HROW.out k hlt, if_neg hkt]
            have J1 := Lib.hid i1.ints
            have J2 := Lib.hid i2.ints
            subst ea eb
            clear i1 i2 hkt
            generalize (mlL ls f).getD k [] = la at *
            generalize ls.getD k [] = lb at *
            go_wp2_with fail
            go_quiet ((go_at_call 19; refine Calls.quiet_of (sameInts_t _ _ _ _ la lb _ HQ.out (by exact J1.out) (by exact J2.out) J3)))
            go_wp2
            go_roundw
            case rel => exact ⟨k + 1, by omega, by go_num, none_drewN HG.out _⟩
            case measure => simp [intOf]; omega
        · have HV : Hid (Mem wr w2.heap.size x2 (mlL ls f)) := HMG4.out.gnone HG.out HZG.out.1
          go_wp2_with fail
          refine (implMemoryValid_c w2.heap.size x2 c2 (mlL ls f) _ HV.out HSL.out).mono ?_
          rintro e w' ⟨rfl, rfl⟩
          rw [HOK.out]
          go_wp2_with fail
          go_ret
          exact ⟨rfl, below_none HB4.out (Nat.le_refl _) HG.out⟩
end Go.Proofs.Ytjmlfjpocjmnpaa
