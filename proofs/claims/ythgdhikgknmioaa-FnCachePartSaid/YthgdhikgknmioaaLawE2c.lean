/-
  The walk of the law FnCachePart: it returns true and writes nothing that was there. No conditions.
-/
import Derived.Test.YthgdhikgknmioaaLawE2
import Derived.IntWalk
namespace Go.Proofs.Ythgdhikgknmioaa
open Go.RowKit
theorem Caches.dropK {w : World} {B g off : Nat} {cs : List CachedV} (h : Caches w B (some ⟨g, off, none⟩) cs) (k : Nat) : Caches w B (some ⟨g, off + 4 * k, none⟩) (cs.drop k) := by
  rcases h with h | ⟨b, o, ha, hb, hc⟩
  · subst h; exact .inl (by simp)
  · simp only [Option.some.injEq, Addr.mk.injEq, and_true] at ha
    obtain ⟨rfl, rfl⟩ := ha
    refine .inr ⟨g, off + 4 * k, rfl, hb, fun i hi => ?_⟩
    rw [List.length_drop] at hi
    have := hc (k + i) (by omega)
    rw [show (cs.drop k).getD i c0V = cs.getD (k + i) c0V from by rw [List.getD_eq_getElem?_getD, List.getD_eq_getElem?_getD, List.getElem?_drop]]
    rw [show off + (k + i) * 4 = off + 4 * k + i * 4 from by omega] at this
    exact this
attribute [local irreducible] Go.wpQuiet

structure InvA (wc : World) (cs : List CachedV) (g off n c1 k : Nat) (c0 cA c2 c3 c4 c5 c6 c7 c8 c10 c11 c12 c13 c14 c15 c16 c17 c18 c19 c20 c21 c22 c23 c24 c25 c26 c27 c28 c29 c30 c31 c32 c33 c34 c35 c36 c37 c38 c39 c40 c41 c42 c43 c44 c55 c56 c57 c58 c59 c60 c61 c62 c63 c64 c65 c66 c67 c68 c69 c70 c71 : Value) (L : Array Bool) (act : Act) (w : World) : Prop where
  ex : ∃ u9 u45 u46 u47 u48 u49 u50 u51 u52 u53 u54 : Value, act = ⟨(c0 :: cA :: c2 :: c3 :: c4 :: c5 :: c6 :: c7 :: c8 :: u9 :: c10 :: c11 :: c12 :: c13 :: c14 :: c15 :: c16 :: c17 :: c18 :: c19 :: c20 :: c21 :: c22 :: c23 :: c24 :: c25 :: c26 :: c27 :: c28 :: c29 :: c30 :: c31 :: c32 :: c33 :: c34 :: c35 :: c36 :: c37 :: c38 :: c39 :: c40 :: c41 :: c42 :: c43 :: c44 :: u45 :: u46 :: u47 :: u48 :: u49 :: u50 :: u51 :: u52 :: u53 :: u54 :: c55 :: c56 :: c57 :: c58 :: c59 :: c60 :: c61 :: c62 :: c63 :: c64 :: c65 :: c66 :: c67 :: c68 :: c69 :: c70 :: c71 :: []).toArray, []⟩ ∧ wc.grownBy w none ∧
    (L.getD 0 false = true → L.getD 4 false = false → OwnC w wc.heap.size u45 []) ∧
    (L.getD 1 false = true → u46 = .slice (some ⟨g, off, none⟩) n c1) ∧
    (L.getD 2 false = true → u47 = .int .i64 (k : Int)) ∧
    (L.getD 3 false = true → ∃ m c, u48 = .slice (some ⟨g, off, none⟩) m c ∧ (cs.take k).length = m) ∧
    (L.getD 4 false = true → L.getD 9 false = false → OwnC w wc.heap.size u49 (cs.take k)) ∧
    (L.getD 5 false = true → u50 = .slice (some ⟨g, off, none⟩) n c1) ∧
    (L.getD 6 false = true → u51 = .int .i64 (k : Int)) ∧
    (L.getD 7 false = true → u52 = .int .i64 ((k : Int) + 1)) ∧
    (L.getD 8 false = true → ∃ o m c, u53 = .slice (some ⟨g, o, none⟩) m c ∧ (cs.drop (k + 1)).length = m ∧ Caches wc wc.heap.size (some ⟨g, o, none⟩) (cs.drop (k + 1))) ∧
    (L.getD 9 false = true → OwnC w wc.heap.size u54 (cs.take k ++ cs.drop (k + 1))) ∧
    (L.getD 10 false = true → u9 = u54) ∧
    (L.getD 9 false = true → L.getD 4 false = true) ∧
    (L.getD 10 false = true → L.getD 9 false = true)
structure InvB (wc : World) (cs : List CachedV) (g off n c1 k : Nat) (c0 cA c2 c3 c4 c5 c6 c7 c8 c9 c11 c12 c13 c14 c15 c16 c17 c18 c19 c20 c21 c22 c23 c24 c25 c26 c27 c28 c29 c30 c31 c32 c33 c34 c35 c36 c37 c38 c39 c40 c41 c42 c43 c44 c45 c46 c47 c48 c49 c50 c51 c52 c53 c54 c65 c66 c67 c68 c69 c70 c71 : Value) (L : Array Bool) (act : Act) (w : World) : Prop where
  ex : ∃ u10 u55 u56 u57 u58 u59 u60 u61 u62 u63 u64 : Value, act = ⟨(c0 :: cA :: c2 :: c3 :: c4 :: c5 :: c6 :: c7 :: c8 :: c9 :: u10 :: c11 :: c12 :: c13 :: c14 :: c15 :: c16 :: c17 :: c18 :: c19 :: c20 :: c21 :: c22 :: c23 :: c24 :: c25 :: c26 :: c27 :: c28 :: c29 :: c30 :: c31 :: c32 :: c33 :: c34 :: c35 :: c36 :: c37 :: c38 :: c39 :: c40 :: c41 :: c42 :: c43 :: c44 :: c45 :: c46 :: c47 :: c48 :: c49 :: c50 :: c51 :: c52 :: c53 :: c54 :: u55 :: u56 :: u57 :: u58 :: u59 :: u60 :: u61 :: u62 :: u63 :: u64 :: c65 :: c66 :: c67 :: c68 :: c69 :: c70 :: c71 :: []).toArray, []⟩ ∧ wc.grownBy w none ∧
    (L.getD 0 false = true → L.getD 5 false = false → OwnC w wc.heap.size u55 []) ∧
    (L.getD 1 false = true → u56 = .slice (some ⟨g, off, none⟩) n c1) ∧
    (L.getD 2 false = true → u57 = .int .i64 (k : Int)) ∧
    (L.getD 4 false = true → ∃ m c, u59 = .slice (some ⟨g, off, none⟩) m c ∧ (cs.take (k + 1)).length = m) ∧
    (L.getD 5 false = true → L.getD 9 false = false → OwnC w wc.heap.size u60 (cs.take (k + 1))) ∧
    (L.getD 6 false = true → u61 = .slice (some ⟨g, off, none⟩) n c1) ∧
    (L.getD 7 false = true → u62 = .int .i64 (k : Int)) ∧
    (L.getD 3 false = true → u58 = .int .i64 ((k : Int) + 1)) ∧
    (L.getD 8 false = true → ∃ o m c, u63 = .slice (some ⟨g, o, none⟩) m c ∧ (cs.drop k).length = m ∧ Caches wc wc.heap.size (some ⟨g, o, none⟩) (cs.drop k)) ∧
    (L.getD 9 false = true → OwnC w wc.heap.size u64 (cs.take (k + 1) ++ cs.drop k)) ∧
    (L.getD 10 false = true → u10 = u64) ∧
    (L.getD 9 false = true → L.getD 5 false = true) ∧
    (L.getD 10 false = true → L.getD 9 false = true)
set_option maxHeartbeats 1000000 in
theorem FnCachePart_w (a : Option Addr) (len cap : Nat) (a' : Option Addr) (len' cap' : Nat) (w : World) (hB : Bytes w w.heap.size a len) (hc : len ≤ cap) (hm : len ≤ maxLen) (_hB' : Bytes w w.heap.size a' len') (_hc' : len' ≤ cap') (hm' : len' ≤ maxLen) :
    Calls Try.prog 3 #[.slice a len cap, .slice a' len' cap'] w fun e w' => e = .returned (.bool true) ∧ Below w.heap.size w w' := by
  have HBY := Lib.hid hB
  clear hB _hB' _hc'
  by_cases hlong : 1048576 < len
  · have hlong' : (1048576 : Int) < (len : Int) := by omega
    unfold maxLen at hm hm'
    go_enter Try.func3, Try.ntmps3
    go_wp2_with fail
    go_ret
    exact ⟨rfl, Below.refl _ _⟩
  · have hlong' : ¬ (1048576 : Int) < (len : Int) := by omega
    by_cases hlong2 : 1048576 < len'
    · have hlong2' : (1048576 : Int) < (len' : Int) := by omega
      unfold maxLen at hm hm'
      go_enter Try.func3, Try.ntmps3
      go_wp2_with fail
      go_ret
      exact ⟨rfl, Below.refl _ _⟩
    · have hlong2' : ¬ (1048576 : Int) < (len' : Int) := by omega
      go_enter Try.func3, Try.ntmps3
      go_wp2_with fail
      refine (DrawCacheValid_c a len cap w HBY.out hc hm).mono ?_
      rintro e w1 ⟨v1, cs, rfl, ho1, hl1, hb1⟩
      obtain ⟨x1, c1, rfl, hk1, hx1, hm1⟩ := ho1.caches (fun g e => (ho1.lt g e).2)
      have HKC := Lib.hid hk1
      have HL8 := Lib.hid hl1
      have HS : Hid (cs.length ≤ 1048576) := Nat.le_trans hl1 (by omega)
      have HB1 := Lib.hid hb1
      have HOC1 := Lib.hid ho1
      have HCC1 := Lib.hid hm1
      clear ho1 hb1 hm1
      go_wp2_with fail
      refine (implCacheValid_c w1.heap.size x1 c1 cs _ HCC1.out (Nat.le_refl _) HS.out HKC.out).mono ?_
      rintro e w2 ⟨rfl, hg2⟩
      have HB2 := Lib.hid (below_none HB1.out (Nat.le_refl _) hg2)
      have HZ2 := Lib.hid hg2.size
      have HCC2 := Lib.hid (HCC1.out.gnone hg2 (Nat.le_refl _))
      have HOC2 := Lib.hid (HOC1.out.gnone hg2)
      clear hg2
      go_wp2_with fail
      refine (specCacheValid_c w1.heap.size x1 c1 cs _ HCC2.out HZ2.out HS.out).mono ?_
      rintro e w3 ⟨rfl, hg3⟩
      have HB3 := Lib.hid (below_none HB2.out (Nat.le_refl _) hg3)
      have HZ3 := Lib.hid (Nat.le_trans HZ2.out hg3.size)
      have HCC3 := Lib.hid (HCC2.out.gnone hg3 HZ2.out)
      have HOC3 := Lib.hid (HOC2.out.gnone hg3)
      clear hg3
      rcases hv : ccB cs
      · go_wp2_with fail
        go_ret
        exact ⟨rfl, HB3.out⟩
      · have HV := Lib.hid hv
        clear hv
        by_cases h0 : cs.length = 0
        · have h0' : (cs.length : Int) = 0 := by omega
          go_wp2_with fail
          go_ret
          exact ⟨rfl, HB3.out⟩
        · have h0' : (1 : Int) ≤ (cs.length : Int) := by omega
          have h0'' : ¬ (cs.length : Int) = 0 := by omega
          obtain ⟨k, hk⟩ : ∃ k, k = len' % cs.length := ⟨_, rfl⟩
          have hkl : k < cs.length := by rw [hk]; exact Nat.mod_lt _ (by omega)
          have hkm : (len' : Int).tmod (cs.length : Int) = (k : Int) := by rw [hk, Int.tmod_eq_emod_of_nonneg (by omega)]; rfl
          clear hk
          obtain ⟨g, off, rfl⟩ : ∃ g off, x1 = some ⟨g, off, none⟩ := by
            rcases HCC3.out with h | ⟨b, off, h, _⟩
            · rw [h] at h0; exact absurd rfl h0
            · exact ⟨b, off, h⟩
          have hz : ((cs.length : Int) == 0) = false := beq_eq_false_iff_ne.2 h0''
          unfold maxLen at hx1
          go_wp2_with fail
          have HB := Lib.hid HZ3.out
          have HCK : Hid (Caches w3 w3.heap.size (some ⟨g, off, none⟩) cs) := HCC3.out.mono HZ3.out
          have HLS := Lib.hid hl1
          have HWR : Hid (IntKind.i64.wrap ((k : Int) + 1) = (k : Int) + 1) := IntWalk.i64_in _ (by omega)
          have HL1 : Hid ((cs.take k).length = k) := by show _ = _; rw [List.length_take]; omega
          have HL2 : Hid ((cs.drop (k + 1)).length = cs.length - (k + 1)) := List.length_drop
          have HC2 : Hid (∃ o, (if c1 = k + 1 then some (⟨g, off, none⟩ : Addr) else some ⟨g, off + (k + 1) * 4, none⟩) = some ⟨g, o, none⟩ ∧ Caches w3 w3.heap.size (some ⟨g, o, none⟩) (cs.drop (k + 1))) := by
            by_cases h : c1 = k + 1
            · exact ⟨off, by rw [if_pos h], .inl (List.drop_eq_nil_of_le (by omega))⟩
            · exact ⟨off + (k + 1) * 4, by rw [if_neg h], by rw [Nat.mul_comm]; exact HCK.out.dropK (k + 1)⟩
          have HD1 : Hid (∃ o, (if c1 = k then some (⟨g, off, none⟩ : Addr) else some ⟨g, off + k * 4, none⟩) = some ⟨g, o, none⟩ ∧ Caches w3 w3.heap.size (some ⟨g, o, none⟩) (cs.drop k)) := by
            by_cases h : c1 = k
            · omega
            · exact ⟨off + k * 4, by rw [if_neg h], by rw [Nat.mul_comm]; exact HCK.out.dropK k⟩
          have hkc : k ≤ c1 := by omega
          have hkd : k ≤ cs.length := by omega
          have hke : (0 : Int) ≤ (k : Int) + 1 := by omega
          have hkf : (k : Int) + 1 ≤ (cs.length : Int) := by omega
          have hkg : (k : Int) + 1 ≤ (c1 : Int) := by omega
          generalize w3 = wc at *
          refine wp_region_inv (by kernel_rfl) (InvA wc cs g off cs.length c1 k (.slice a len cap) (.slice a' len' cap') undef undef (.bool false) (.slice (some ⟨g, off, none⟩) cs.length c1) (.bool true) (.bool true) (.int .i64 (k : Int)) undef (.slice a len cap) (.int .i64 (len : Int)) (.bool false) (.bool false) (.slice a' len' cap') (.int .i64 (len' : Int)) (.bool false) (.bool false) (.slice a len cap) (.slice (some ⟨g, off, none⟩) cs.length c1) (.slice (some ⟨g, off, none⟩) cs.length c1) (.bool true) (.slice (some ⟨g, off, none⟩) cs.length c1) (.bool true) (.bool true) (.bool true) (.bool false) (.bool false) (.bool true) (.bool false) (.bool false) (.bool false) (.slice (some ⟨g, off, none⟩) cs.length c1) (.int .i64 (cs.length : Int)) (.bool false) (.bool false) undef undef undef (.slice a' len' cap') (.int .i64 (len' : Int)) (.slice (some ⟨g, off, none⟩) cs.length c1) (.int .i64 (cs.length : Int)) (.int .i64 (k : Int)) undef undef undef undef undef undef undef undef undef undef undef undef undef undef undef undef undef) (by kernel_rfl) ?_ ?_ ?_
          · exact ⟨_, _, _, _, _, _, _, _, _, _, _, rfl, drewN_none wc 1, by simp, by simp, by simp, by simp, by simp, by simp, by simp, by simp, by simp, by simp, by simp, by simp, by simp⟩
          · rintro L act W i hs ⟨u9, u45, u46, u47, u48, u49, u50, u51, u52, u53, u54, rfl, hG, p_b, p_v1, p_k1, p_s1, p_a1, p_v2, p_k2, p_ad, p_s2, p_a2, p_z, p_q1, p_q2⟩ hi hl hd
            have hi' : i < 11 := hi
            have hc' : i = 0 ∨ i = 1 ∨ i = 2 ∨ i = 3 ∨ i = 4 ∨ i = 5 ∨ i = 6 ∨ i = 7 ∨ i = 8 ∨ i = 9 ∨ i = 10 := by omega
            rcases hc' with rfl | rfl | rfl | rfl | rfl | rfl | rfl | rfl | rfl | rfl | rfl
            · have hLf : L.getD 0 false = false := getD_false hl (by rw [hs]; decide)
              have hsz : 0 < L.size := by rw [hs]; decide
              have E1 : (L.setIfInBounds 0 true).getD 1 false = L.getD 1 false := by rw [getD_setB _ _ _ _ hsz, if_neg (by decide)]
              have E2 : (L.setIfInBounds 0 true).getD 2 false = L.getD 2 false := by rw [getD_setB _ _ _ _ hsz, if_neg (by decide)]
              have E3 : (L.setIfInBounds 0 true).getD 3 false = L.getD 3 false := by rw [getD_setB _ _ _ _ hsz, if_neg (by decide)]
              have E4 : (L.setIfInBounds 0 true).getD 4 false = L.getD 4 false := by rw [getD_setB _ _ _ _ hsz, if_neg (by decide)]
              have E5 : (L.setIfInBounds 0 true).getD 5 false = L.getD 5 false := by rw [getD_setB _ _ _ _ hsz, if_neg (by decide)]
              have E6 : (L.setIfInBounds 0 true).getD 6 false = L.getD 6 false := by rw [getD_setB _ _ _ _ hsz, if_neg (by decide)]
              have E7 : (L.setIfInBounds 0 true).getD 7 false = L.getD 7 false := by rw [getD_setB _ _ _ _ hsz, if_neg (by decide)]
              have E8 : (L.setIfInBounds 0 true).getD 8 false = L.getD 8 false := by rw [getD_setB _ _ _ _ hsz, if_neg (by decide)]
              have E9 : (L.setIfInBounds 0 true).getD 9 false = L.getD 9 false := by rw [getD_setB _ _ _ _ hsz, if_neg (by decide)]
              have E10 : (L.setIfInBounds 0 true).getD 10 false = L.getD 10 false := by rw [getD_setB _ _ _ _ hsz, if_neg (by decide)]
              have E0 : (L.setIfInBounds 0 true).getD 0 false = true := by rw [getD_setB _ _ _ _ hsz, if_pos rfl]
              refine wpOp_run rfl rfl fun K hK => ?_
              clear hd hs hi hl
              go_simp
              have ha : W.grownBy (W.alloc (.cells #[] 30)) none := World.grownBy_alloc _ _ _
              have hz := hG.size
              refine hK _ _ ⟨_, _, _, _, _, _, _, _, _, _, _, rfl, none_trans hG ha, ?_, ?_, ?_, ?_, ?_, ?_, ?_, ?_, ?_, ?_, ?_, ?_, ?_⟩
              all_goals simp only [E0, E1, E2, E3, E4, E5, E6, E7, E8, E9, E10]
              · first | exact fun _ _ => OwnC.lit W _ hz | exact fun _ => trivial | (intros; trivial)
              · first | exact p_v1 | exact fun _ => trivial | (intros; trivial)
              · first | exact p_k1 | exact fun _ => trivial | (intros; trivial)
              · first | exact p_s1 | exact fun _ => trivial | (intros; trivial)
              · first | exact fun h h2 => (p_a1 h h2).gnone ha | exact fun _ => trivial | (intros; trivial)
              · first | exact p_v2 | exact fun _ => trivial | (intros; trivial)
              · first | exact p_k2 | exact fun _ => trivial | (intros; trivial)
              · first | exact p_ad | exact fun _ => trivial | (intros; trivial)
              · first | exact p_s2 | exact fun _ => trivial | (intros; trivial)
              · first | exact fun h => (p_a2 h).gnone ha | exact fun _ => trivial | (intros; trivial)
              · first | exact p_z | exact fun _ => trivial | (intros; trivial)
              · first | exact p_q1 | exact fun _ => trivial | (intros; trivial)
              · first | exact p_q2 | exact fun _ => trivial | (intros; trivial)
            · have hLf : L.getD 1 false = false := getD_false hl (by rw [hs]; decide)
              have hsz : 1 < L.size := by rw [hs]; decide
              have E0 : (L.setIfInBounds 1 true).getD 0 false = L.getD 0 false := by rw [getD_setB _ _ _ _ hsz, if_neg (by decide)]
              have E2 : (L.setIfInBounds 1 true).getD 2 false = L.getD 2 false := by rw [getD_setB _ _ _ _ hsz, if_neg (by decide)]
              have E3 : (L.setIfInBounds 1 true).getD 3 false = L.getD 3 false := by rw [getD_setB _ _ _ _ hsz, if_neg (by decide)]
              have E4 : (L.setIfInBounds 1 true).getD 4 false = L.getD 4 false := by rw [getD_setB _ _ _ _ hsz, if_neg (by decide)]
              have E5 : (L.setIfInBounds 1 true).getD 5 false = L.getD 5 false := by rw [getD_setB _ _ _ _ hsz, if_neg (by decide)]
              have E6 : (L.setIfInBounds 1 true).getD 6 false = L.getD 6 false := by rw [getD_setB _ _ _ _ hsz, if_neg (by decide)]
              have E7 : (L.setIfInBounds 1 true).getD 7 false = L.getD 7 false := by rw [getD_setB _ _ _ _ hsz, if_neg (by decide)]
              have E8 : (L.setIfInBounds 1 true).getD 8 false = L.getD 8 false := by rw [getD_setB _ _ _ _ hsz, if_neg (by decide)]
              have E9 : (L.setIfInBounds 1 true).getD 9 false = L.getD 9 false := by rw [getD_setB _ _ _ _ hsz, if_neg (by decide)]
              have E10 : (L.setIfInBounds 1 true).getD 10 false = L.getD 10 false := by rw [getD_setB _ _ _ _ hsz, if_neg (by decide)]
              have E1 : (L.setIfInBounds 1 true).getD 1 false = true := by rw [getD_setB _ _ _ _ hsz, if_pos rfl]
              refine wpOp_run rfl rfl fun K hK => ?_
              clear hd hs hi hl
              go_simp
              refine hK _ _ ⟨_, _, _, _, _, _, _, _, _, _, _, rfl, hG, ?_, ?_, ?_, ?_, ?_, ?_, ?_, ?_, ?_, ?_, ?_, ?_, ?_⟩
              all_goals simp only [E0, E1, E2, E3, E4, E5, E6, E7, E8, E9, E10]
              · first | exact p_b | exact fun _ => trivial | (intros; trivial)
              · first | exact fun _ => rfl | exact fun _ => trivial | (intros; trivial)
              · first | exact p_k1 | exact fun _ => trivial | (intros; trivial)
              · first | exact p_s1 | exact fun _ => trivial | (intros; trivial)
              · first | exact p_a1 | exact fun _ => trivial | (intros; trivial)
              · first | exact p_v2 | exact fun _ => trivial | (intros; trivial)
              · first | exact p_k2 | exact fun _ => trivial | (intros; trivial)
              · first | exact p_ad | exact fun _ => trivial | (intros; trivial)
              · first | exact p_s2 | exact fun _ => trivial | (intros; trivial)
              · first | exact p_a2 | exact fun _ => trivial | (intros; trivial)
              · first | exact p_z | exact fun _ => trivial | (intros; trivial)
              · first | exact p_q1 | exact fun _ => trivial | (intros; trivial)
              · first | exact p_q2 | exact fun _ => trivial | (intros; trivial)
            · have hLf : L.getD 2 false = false := getD_false hl (by rw [hs]; decide)
              have hsz : 2 < L.size := by rw [hs]; decide
              have E0 : (L.setIfInBounds 2 true).getD 0 false = L.getD 0 false := by rw [getD_setB _ _ _ _ hsz, if_neg (by decide)]
              have E1 : (L.setIfInBounds 2 true).getD 1 false = L.getD 1 false := by rw [getD_setB _ _ _ _ hsz, if_neg (by decide)]
              have E3 : (L.setIfInBounds 2 true).getD 3 false = L.getD 3 false := by rw [getD_setB _ _ _ _ hsz, if_neg (by decide)]
              have E4 : (L.setIfInBounds 2 true).getD 4 false = L.getD 4 false := by rw [getD_setB _ _ _ _ hsz, if_neg (by decide)]
              have E5 : (L.setIfInBounds 2 true).getD 5 false = L.getD 5 false := by rw [getD_setB _ _ _ _ hsz, if_neg (by decide)]
              have E6 : (L.setIfInBounds 2 true).getD 6 false = L.getD 6 false := by rw [getD_setB _ _ _ _ hsz, if_neg (by decide)]
              have E7 : (L.setIfInBounds 2 true).getD 7 false = L.getD 7 false := by rw [getD_setB _ _ _ _ hsz, if_neg (by decide)]
              have E8 : (L.setIfInBounds 2 true).getD 8 false = L.getD 8 false := by rw [getD_setB _ _ _ _ hsz, if_neg (by decide)]
              have E9 : (L.setIfInBounds 2 true).getD 9 false = L.getD 9 false := by rw [getD_setB _ _ _ _ hsz, if_neg (by decide)]
              have E10 : (L.setIfInBounds 2 true).getD 10 false = L.getD 10 false := by rw [getD_setB _ _ _ _ hsz, if_neg (by decide)]
              have E2 : (L.setIfInBounds 2 true).getD 2 false = true := by rw [getD_setB _ _ _ _ hsz, if_pos rfl]
              refine wpOp_run rfl rfl fun K hK => ?_
              clear hd hs hi hl
              go_simp
              refine hK _ _ ⟨_, _, _, _, _, _, _, _, _, _, _, rfl, hG, ?_, ?_, ?_, ?_, ?_, ?_, ?_, ?_, ?_, ?_, ?_, ?_, ?_⟩
              all_goals simp only [E0, E1, E2, E3, E4, E5, E6, E7, E8, E9, E10]
              · first | exact p_b | exact fun _ => trivial | (intros; trivial)
              · first | exact p_v1 | exact fun _ => trivial | (intros; trivial)
              · first | exact fun _ => rfl | exact fun _ => trivial | (intros; trivial)
              · first | exact p_s1 | exact fun _ => trivial | (intros; trivial)
              · first | exact p_a1 | exact fun _ => trivial | (intros; trivial)
              · first | exact p_v2 | exact fun _ => trivial | (intros; trivial)
              · first | exact p_k2 | exact fun _ => trivial | (intros; trivial)
              · first | exact p_ad | exact fun _ => trivial | (intros; trivial)
              · first | exact p_s2 | exact fun _ => trivial | (intros; trivial)
              · first | exact p_a2 | exact fun _ => trivial | (intros; trivial)
              · first | exact p_z | exact fun _ => trivial | (intros; trivial)
              · first | exact p_q1 | exact fun _ => trivial | (intros; trivial)
              · first | exact p_q2 | exact fun _ => trivial | (intros; trivial)
            · have hLf : L.getD 3 false = false := getD_false hl (by rw [hs]; decide)
              have hsz : 3 < L.size := by rw [hs]; decide
              have E0 : (L.setIfInBounds 3 true).getD 0 false = L.getD 0 false := by rw [getD_setB _ _ _ _ hsz, if_neg (by decide)]
              have E1 : (L.setIfInBounds 3 true).getD 1 false = L.getD 1 false := by rw [getD_setB _ _ _ _ hsz, if_neg (by decide)]
              have E2 : (L.setIfInBounds 3 true).getD 2 false = L.getD 2 false := by rw [getD_setB _ _ _ _ hsz, if_neg (by decide)]
              have E4 : (L.setIfInBounds 3 true).getD 4 false = L.getD 4 false := by rw [getD_setB _ _ _ _ hsz, if_neg (by decide)]
              have E5 : (L.setIfInBounds 3 true).getD 5 false = L.getD 5 false := by rw [getD_setB _ _ _ _ hsz, if_neg (by decide)]
              have E6 : (L.setIfInBounds 3 true).getD 6 false = L.getD 6 false := by rw [getD_setB _ _ _ _ hsz, if_neg (by decide)]
              have E7 : (L.setIfInBounds 3 true).getD 7 false = L.getD 7 false := by rw [getD_setB _ _ _ _ hsz, if_neg (by decide)]
              have E8 : (L.setIfInBounds 3 true).getD 8 false = L.getD 8 false := by rw [getD_setB _ _ _ _ hsz, if_neg (by decide)]
              have E9 : (L.setIfInBounds 3 true).getD 9 false = L.getD 9 false := by rw [getD_setB _ _ _ _ hsz, if_neg (by decide)]
              have E10 : (L.setIfInBounds 3 true).getD 10 false = L.getD 10 false := by rw [getD_setB _ _ _ _ hsz, if_neg (by decide)]
              have E3 : (L.setIfInBounds 3 true).getD 3 false = true := by rw [getD_setB _ _ _ _ hsz, if_pos rfl]
              have d_v1 := hd _ rfl ⟨1, .data⟩ (by simp) rfl
              have d_k1 := hd _ rfl ⟨2, .data⟩ (by simp) rfl
              obtain rfl := p_v1 d_v1
              obtain rfl := p_k1 d_k1
              refine wpOp_run rfl rfl fun K hK => ?_
              clear hd hs hi hl
              go_simp
              refine hK _ _ ⟨_, _, _, _, _, _, _, _, _, _, _, rfl, hG, ?_, ?_, ?_, ?_, ?_, ?_, ?_, ?_, ?_, ?_, ?_, ?_, ?_⟩
              all_goals simp only [E0, E1, E2, E3, E4, E5, E6, E7, E8, E9, E10]
              · first | exact p_b | exact fun _ => trivial | (intros; trivial)
              · first | exact p_v1 | exact fun _ => trivial | (intros; trivial)
              · first | exact p_k1 | exact fun _ => trivial | (intros; trivial)
              · exact fun _ => ⟨_, _, rfl, HL1.out⟩
              · first | exact p_a1 | exact fun _ => trivial | (intros; trivial)
              · first | exact p_v2 | exact fun _ => trivial | (intros; trivial)
              · first | exact p_k2 | exact fun _ => trivial | (intros; trivial)
              · first | exact p_ad | exact fun _ => trivial | (intros; trivial)
              · first | exact p_s2 | exact fun _ => trivial | (intros; trivial)
              · first | exact p_a2 | exact fun _ => trivial | (intros; trivial)
              · first | exact p_z | exact fun _ => trivial | (intros; trivial)
              · first | exact p_q1 | exact fun _ => trivial | (intros; trivial)
              · first | exact p_q2 | exact fun _ => trivial | (intros; trivial)
            · have hLf : L.getD 4 false = false := getD_false hl (by rw [hs]; decide)
              have hsz : 4 < L.size := by rw [hs]; decide
              have E0 : (L.setIfInBounds 4 true).getD 0 false = L.getD 0 false := by rw [getD_setB _ _ _ _ hsz, if_neg (by decide)]
              have E1 : (L.setIfInBounds 4 true).getD 1 false = L.getD 1 false := by rw [getD_setB _ _ _ _ hsz, if_neg (by decide)]
              have E2 : (L.setIfInBounds 4 true).getD 2 false = L.getD 2 false := by rw [getD_setB _ _ _ _ hsz, if_neg (by decide)]
              have E3 : (L.setIfInBounds 4 true).getD 3 false = L.getD 3 false := by rw [getD_setB _ _ _ _ hsz, if_neg (by decide)]
              have E5 : (L.setIfInBounds 4 true).getD 5 false = L.getD 5 false := by rw [getD_setB _ _ _ _ hsz, if_neg (by decide)]
              have E6 : (L.setIfInBounds 4 true).getD 6 false = L.getD 6 false := by rw [getD_setB _ _ _ _ hsz, if_neg (by decide)]
              have E7 : (L.setIfInBounds 4 true).getD 7 false = L.getD 7 false := by rw [getD_setB _ _ _ _ hsz, if_neg (by decide)]
              have E8 : (L.setIfInBounds 4 true).getD 8 false = L.getD 8 false := by rw [getD_setB _ _ _ _ hsz, if_neg (by decide)]
              have E9 : (L.setIfInBounds 4 true).getD 9 false = L.getD 9 false := by rw [getD_setB _ _ _ _ hsz, if_neg (by decide)]
              have E10 : (L.setIfInBounds 4 true).getD 10 false = L.getD 10 false := by rw [getD_setB _ _ _ _ hsz, if_neg (by decide)]
              have E4 : (L.setIfInBounds 4 true).getD 4 false = true := by rw [getD_setB _ _ _ _ hsz, if_pos rfl]
              have d_b := hd _ rfl ⟨0, .data⟩ (by simp) rfl
              have d_s1 := hd _ rfl ⟨3, .data⟩ (by simp) rfl
              obtain ⟨m, c, rfl, hm⟩ := p_s1 d_s1
              have o0 := p_b d_b hLf
              refine wpOp_run rfl rfl fun K hK => ?_
              clear hd hs hi hl
              have hz := hG.size
              refine wp_appC_at (.tmp 45) (.tmp 48) rfl wc.heap.size u45 [] rfl o0 wc.heap.size g off m c (cs.take k) rfl hm ((HCK.out.gnone hG (Nat.le_refl _)).take _) (by have := HLS.out; simp; omega) hz ?_
              intro v' w' ho hg hat
              have hl0 : ∀ j, u45.ownBlock = some j → wc.heap.size ≤ j := fun j e => (o0.lt j e).1
              refine hK _ _ ⟨_, _, _, _, _, _, _, _, _, _, _, rfl, none_row hG hg hl0, ?_, ?_, ?_, ?_, ?_, ?_, ?_, ?_, ?_, ?_, ?_, ?_, ?_⟩
              all_goals simp only [E0, E1, E2, E3, E4, E5, E6, E7, E8, E9, E10]
              · exact fun _ h => by cases h
              · first | exact p_v1 | exact fun _ => trivial | (intros; trivial)
              · first | exact p_k1 | exact fun _ => trivial | (intros; trivial)
              · first | exact p_s1 | exact fun _ => trivial | (intros; trivial)
              · exact fun _ _ => by simpa using ho
              · first | exact p_v2 | exact fun _ => trivial | (intros; trivial)
              · first | exact p_k2 | exact fun _ => trivial | (intros; trivial)
              · first | exact p_ad | exact fun _ => trivial | (intros; trivial)
              · first | exact p_s2 | exact fun _ => trivial | (intros; trivial)
              · intro h; exact absurd (p_q1 h) (by rw [hLf]; decide)
              · first | exact p_z | exact fun _ => trivial | (intros; trivial)
              · first | exact fun _ => rfl | exact fun _ => trivial | (intros; trivial)
              · first | exact p_q2 | exact fun _ => trivial | (intros; trivial)
            · have hLf : L.getD 5 false = false := getD_false hl (by rw [hs]; decide)
              have hsz : 5 < L.size := by rw [hs]; decide
              have E0 : (L.setIfInBounds 5 true).getD 0 false = L.getD 0 false := by rw [getD_setB _ _ _ _ hsz, if_neg (by decide)]
              have E1 : (L.setIfInBounds 5 true).getD 1 false = L.getD 1 false := by rw [getD_setB _ _ _ _ hsz, if_neg (by decide)]
              have E2 : (L.setIfInBounds 5 true).getD 2 false = L.getD 2 false := by rw [getD_setB _ _ _ _ hsz, if_neg (by decide)]
              have E3 : (L.setIfInBounds 5 true).getD 3 false = L.getD 3 false := by rw [getD_setB _ _ _ _ hsz, if_neg (by decide)]
              have E4 : (L.setIfInBounds 5 true).getD 4 false = L.getD 4 false := by rw [getD_setB _ _ _ _ hsz, if_neg (by decide)]
              have E6 : (L.setIfInBounds 5 true).getD 6 false = L.getD 6 false := by rw [getD_setB _ _ _ _ hsz, if_neg (by decide)]
              have E7 : (L.setIfInBounds 5 true).getD 7 false = L.getD 7 false := by rw [getD_setB _ _ _ _ hsz, if_neg (by decide)]
              have E8 : (L.setIfInBounds 5 true).getD 8 false = L.getD 8 false := by rw [getD_setB _ _ _ _ hsz, if_neg (by decide)]
              have E9 : (L.setIfInBounds 5 true).getD 9 false = L.getD 9 false := by rw [getD_setB _ _ _ _ hsz, if_neg (by decide)]
              have E10 : (L.setIfInBounds 5 true).getD 10 false = L.getD 10 false := by rw [getD_setB _ _ _ _ hsz, if_neg (by decide)]
              have E5 : (L.setIfInBounds 5 true).getD 5 false = true := by rw [getD_setB _ _ _ _ hsz, if_pos rfl]
              refine wpOp_run rfl rfl fun K hK => ?_
              clear hd hs hi hl
              go_simp
              refine hK _ _ ⟨_, _, _, _, _, _, _, _, _, _, _, rfl, hG, ?_, ?_, ?_, ?_, ?_, ?_, ?_, ?_, ?_, ?_, ?_, ?_, ?_⟩
              all_goals simp only [E0, E1, E2, E3, E4, E5, E6, E7, E8, E9, E10]
              · first | exact p_b | exact fun _ => trivial | (intros; trivial)
              · first | exact p_v1 | exact fun _ => trivial | (intros; trivial)
              · first | exact p_k1 | exact fun _ => trivial | (intros; trivial)
              · first | exact p_s1 | exact fun _ => trivial | (intros; trivial)
              · first | exact p_a1 | exact fun _ => trivial | (intros; trivial)
              · first | exact fun _ => rfl | exact fun _ => trivial | (intros; trivial)
              · first | exact p_k2 | exact fun _ => trivial | (intros; trivial)
              · first | exact p_ad | exact fun _ => trivial | (intros; trivial)
              · first | exact p_s2 | exact fun _ => trivial | (intros; trivial)
              · first | exact p_a2 | exact fun _ => trivial | (intros; trivial)
              · first | exact p_z | exact fun _ => trivial | (intros; trivial)
              · first | exact p_q1 | exact fun _ => trivial | (intros; trivial)
              · first | exact p_q2 | exact fun _ => trivial | (intros; trivial)
            · have hLf : L.getD 6 false = false := getD_false hl (by rw [hs]; decide)
              have hsz : 6 < L.size := by rw [hs]; decide
              have E0 : (L.setIfInBounds 6 true).getD 0 false = L.getD 0 false := by rw [getD_setB _ _ _ _ hsz, if_neg (by decide)]
              have E1 : (L.setIfInBounds 6 true).getD 1 false = L.getD 1 false := by rw [getD_setB _ _ _ _ hsz, if_neg (by decide)]
              have E2 : (L.setIfInBounds 6 true).getD 2 false = L.getD 2 false := by rw [getD_setB _ _ _ _ hsz, if_neg (by decide)]
              have E3 : (L.setIfInBounds 6 true).getD 3 false = L.getD 3 false := by rw [getD_setB _ _ _ _ hsz, if_neg (by decide)]
              have E4 : (L.setIfInBounds 6 true).getD 4 false = L.getD 4 false := by rw [getD_setB _ _ _ _ hsz, if_neg (by decide)]
              have E5 : (L.setIfInBounds 6 true).getD 5 false = L.getD 5 false := by rw [getD_setB _ _ _ _ hsz, if_neg (by decide)]
              have E7 : (L.setIfInBounds 6 true).getD 7 false = L.getD 7 false := by rw [getD_setB _ _ _ _ hsz, if_neg (by decide)]
              have E8 : (L.setIfInBounds 6 true).getD 8 false = L.getD 8 false := by rw [getD_setB _ _ _ _ hsz, if_neg (by decide)]
              have E9 : (L.setIfInBounds 6 true).getD 9 false = L.getD 9 false := by rw [getD_setB _ _ _ _ hsz, if_neg (by decide)]
              have E10 : (L.setIfInBounds 6 true).getD 10 false = L.getD 10 false := by rw [getD_setB _ _ _ _ hsz, if_neg (by decide)]
              have E6 : (L.setIfInBounds 6 true).getD 6 false = true := by rw [getD_setB _ _ _ _ hsz, if_pos rfl]
              refine wpOp_run rfl rfl fun K hK => ?_
              clear hd hs hi hl
              go_simp
              refine hK _ _ ⟨_, _, _, _, _, _, _, _, _, _, _, rfl, hG, ?_, ?_, ?_, ?_, ?_, ?_, ?_, ?_, ?_, ?_, ?_, ?_, ?_⟩
              all_goals simp only [E0, E1, E2, E3, E4, E5, E6, E7, E8, E9, E10]
              · first | exact p_b | exact fun _ => trivial | (intros; trivial)
              · first | exact p_v1 | exact fun _ => trivial | (intros; trivial)
              · first | exact p_k1 | exact fun _ => trivial | (intros; trivial)
              · first | exact p_s1 | exact fun _ => trivial | (intros; trivial)
              · first | exact p_a1 | exact fun _ => trivial | (intros; trivial)
              · first | exact p_v2 | exact fun _ => trivial | (intros; trivial)
              · first | exact fun _ => rfl | exact fun _ => trivial | (intros; trivial)
              · first | exact p_ad | exact fun _ => trivial | (intros; trivial)
              · first | exact p_s2 | exact fun _ => trivial | (intros; trivial)
              · first | exact p_a2 | exact fun _ => trivial | (intros; trivial)
              · first | exact p_z | exact fun _ => trivial | (intros; trivial)
              · first | exact p_q1 | exact fun _ => trivial | (intros; trivial)
              · first | exact p_q2 | exact fun _ => trivial | (intros; trivial)
            · have hLf : L.getD 7 false = false := getD_false hl (by rw [hs]; decide)
              have hsz : 7 < L.size := by rw [hs]; decide
              have E0 : (L.setIfInBounds 7 true).getD 0 false = L.getD 0 false := by rw [getD_setB _ _ _ _ hsz, if_neg (by decide)]
              have E1 : (L.setIfInBounds 7 true).getD 1 false = L.getD 1 false := by rw [getD_setB _ _ _ _ hsz, if_neg (by decide)]
              have E2 : (L.setIfInBounds 7 true).getD 2 false = L.getD 2 false := by rw [getD_setB _ _ _ _ hsz, if_neg (by decide)]
              have E3 : (L.setIfInBounds 7 true).getD 3 false = L.getD 3 false := by rw [getD_setB _ _ _ _ hsz, if_neg (by decide)]
              have E4 : (L.setIfInBounds 7 true).getD 4 false = L.getD 4 false := by rw [getD_setB _ _ _ _ hsz, if_neg (by decide)]
              have E5 : (L.setIfInBounds 7 true).getD 5 false = L.getD 5 false := by rw [getD_setB _ _ _ _ hsz, if_neg (by decide)]
              have E6 : (L.setIfInBounds 7 true).getD 6 false = L.getD 6 false := by rw [getD_setB _ _ _ _ hsz, if_neg (by decide)]
              have E8 : (L.setIfInBounds 7 true).getD 8 false = L.getD 8 false := by rw [getD_setB _ _ _ _ hsz, if_neg (by decide)]
              have E9 : (L.setIfInBounds 7 true).getD 9 false = L.getD 9 false := by rw [getD_setB _ _ _ _ hsz, if_neg (by decide)]
              have E10 : (L.setIfInBounds 7 true).getD 10 false = L.getD 10 false := by rw [getD_setB _ _ _ _ hsz, if_neg (by decide)]
              have E7 : (L.setIfInBounds 7 true).getD 7 false = true := by rw [getD_setB _ _ _ _ hsz, if_pos rfl]
              have d_k2 := hd _ rfl ⟨6, .data⟩ (by simp) rfl
              obtain rfl := p_k2 d_k2
              refine wpOp_run rfl rfl fun K hK => ?_
              clear hd hs hi hl
              go_simp
              try simp only [HWR.out]
              refine hK _ _ ⟨_, _, _, _, _, _, _, _, _, _, _, rfl, hG, ?_, ?_, ?_, ?_, ?_, ?_, ?_, ?_, ?_, ?_, ?_, ?_, ?_⟩
              all_goals simp only [E0, E1, E2, E3, E4, E5, E6, E7, E8, E9, E10]
              · first | exact p_b | exact fun _ => trivial | (intros; trivial)
              · first | exact p_v1 | exact fun _ => trivial | (intros; trivial)
              · first | exact p_k1 | exact fun _ => trivial | (intros; trivial)
              · first | exact p_s1 | exact fun _ => trivial | (intros; trivial)
              · first | exact p_a1 | exact fun _ => trivial | (intros; trivial)
              · first | exact p_v2 | exact fun _ => trivial | (intros; trivial)
              · first | exact p_k2 | exact fun _ => trivial | (intros; trivial)
              · first | exact fun _ => rfl | exact fun _ => trivial | (intros; trivial)
              · first | exact p_s2 | exact fun _ => trivial | (intros; trivial)
              · first | exact p_a2 | exact fun _ => trivial | (intros; trivial)
              · first | exact p_z | exact fun _ => trivial | (intros; trivial)
              · first | exact p_q1 | exact fun _ => trivial | (intros; trivial)
              · first | exact p_q2 | exact fun _ => trivial | (intros; trivial)
            · have hLf : L.getD 8 false = false := getD_false hl (by rw [hs]; decide)
              have hsz : 8 < L.size := by rw [hs]; decide
              have E0 : (L.setIfInBounds 8 true).getD 0 false = L.getD 0 false := by rw [getD_setB _ _ _ _ hsz, if_neg (by decide)]
              have E1 : (L.setIfInBounds 8 true).getD 1 false = L.getD 1 false := by rw [getD_setB _ _ _ _ hsz, if_neg (by decide)]
              have E2 : (L.setIfInBounds 8 true).getD 2 false = L.getD 2 false := by rw [getD_setB _ _ _ _ hsz, if_neg (by decide)]
              have E3 : (L.setIfInBounds 8 true).getD 3 false = L.getD 3 false := by rw [getD_setB _ _ _ _ hsz, if_neg (by decide)]
              have E4 : (L.setIfInBounds 8 true).getD 4 false = L.getD 4 false := by rw [getD_setB _ _ _ _ hsz, if_neg (by decide)]
              have E5 : (L.setIfInBounds 8 true).getD 5 false = L.getD 5 false := by rw [getD_setB _ _ _ _ hsz, if_neg (by decide)]
              have E6 : (L.setIfInBounds 8 true).getD 6 false = L.getD 6 false := by rw [getD_setB _ _ _ _ hsz, if_neg (by decide)]
              have E7 : (L.setIfInBounds 8 true).getD 7 false = L.getD 7 false := by rw [getD_setB _ _ _ _ hsz, if_neg (by decide)]
              have E9 : (L.setIfInBounds 8 true).getD 9 false = L.getD 9 false := by rw [getD_setB _ _ _ _ hsz, if_neg (by decide)]
              have E10 : (L.setIfInBounds 8 true).getD 10 false = L.getD 10 false := by rw [getD_setB _ _ _ _ hsz, if_neg (by decide)]
              have E8 : (L.setIfInBounds 8 true).getD 8 false = true := by rw [getD_setB _ _ _ _ hsz, if_pos rfl]
              have d_v2 := hd _ rfl ⟨5, .data⟩ (by simp) rfl
              have d_ad := hd _ rfl ⟨7, .data⟩ (by simp) rfl
              obtain rfl := p_v2 d_v2
              obtain rfl := p_ad d_ad
              refine wpOp_run rfl rfl fun K hK => ?_
              clear hd hs hi hl
              go_simp
              refine hK _ _ ⟨_, _, _, _, _, _, _, _, _, _, _, rfl, hG, ?_, ?_, ?_, ?_, ?_, ?_, ?_, ?_, ?_, ?_, ?_, ?_, ?_⟩
              all_goals simp only [E0, E1, E2, E3, E4, E5, E6, E7, E8, E9, E10]
              · first | exact p_b | exact fun _ => trivial | (intros; trivial)
              · first | exact p_v1 | exact fun _ => trivial | (intros; trivial)
              · first | exact p_k1 | exact fun _ => trivial | (intros; trivial)
              · first | exact p_s1 | exact fun _ => trivial | (intros; trivial)
              · first | exact p_a1 | exact fun _ => trivial | (intros; trivial)
              · first | exact p_v2 | exact fun _ => trivial | (intros; trivial)
              · first | exact p_k2 | exact fun _ => trivial | (intros; trivial)
              · first | exact p_ad | exact fun _ => trivial | (intros; trivial)
              · intro _; obtain ⟨o, ho1, ho2⟩ := HC2.out; exact ⟨o, _, _, congrArg (fun z => Value.slice z _ _) ho1, HL2.out, ho2⟩
              · first | exact p_a2 | exact fun _ => trivial | (intros; trivial)
              · first | exact p_z | exact fun _ => trivial | (intros; trivial)
              · first | exact p_q1 | exact fun _ => trivial | (intros; trivial)
              · first | exact p_q2 | exact fun _ => trivial | (intros; trivial)
            · have hLf : L.getD 9 false = false := getD_false hl (by rw [hs]; decide)
              have hsz : 9 < L.size := by rw [hs]; decide
              have E0 : (L.setIfInBounds 9 true).getD 0 false = L.getD 0 false := by rw [getD_setB _ _ _ _ hsz, if_neg (by decide)]
              have E1 : (L.setIfInBounds 9 true).getD 1 false = L.getD 1 false := by rw [getD_setB _ _ _ _ hsz, if_neg (by decide)]
              have E2 : (L.setIfInBounds 9 true).getD 2 false = L.getD 2 false := by rw [getD_setB _ _ _ _ hsz, if_neg (by decide)]
              have E3 : (L.setIfInBounds 9 true).getD 3 false = L.getD 3 false := by rw [getD_setB _ _ _ _ hsz, if_neg (by decide)]
              have E4 : (L.setIfInBounds 9 true).getD 4 false = L.getD 4 false := by rw [getD_setB _ _ _ _ hsz, if_neg (by decide)]
              have E5 : (L.setIfInBounds 9 true).getD 5 false = L.getD 5 false := by rw [getD_setB _ _ _ _ hsz, if_neg (by decide)]
              have E6 : (L.setIfInBounds 9 true).getD 6 false = L.getD 6 false := by rw [getD_setB _ _ _ _ hsz, if_neg (by decide)]
              have E7 : (L.setIfInBounds 9 true).getD 7 false = L.getD 7 false := by rw [getD_setB _ _ _ _ hsz, if_neg (by decide)]
              have E8 : (L.setIfInBounds 9 true).getD 8 false = L.getD 8 false := by rw [getD_setB _ _ _ _ hsz, if_neg (by decide)]
              have E10 : (L.setIfInBounds 9 true).getD 10 false = L.getD 10 false := by rw [getD_setB _ _ _ _ hsz, if_neg (by decide)]
              have E9 : (L.setIfInBounds 9 true).getD 9 false = true := by rw [getD_setB _ _ _ _ hsz, if_pos rfl]
              have d_a1 := hd _ rfl ⟨4, .data⟩ (by simp) rfl
              have d_s2 := hd _ rfl ⟨8, .data⟩ (by simp) rfl
              obtain ⟨of, m, c, rfl, hm, hcc⟩ := p_s2 d_s2
              have o4 := p_a1 d_a1 hLf
              refine wpOp_run rfl rfl fun K hK => ?_
              clear hd hs hi hl
              have hz := hG.size
              refine wp_appC_at (.tmp 49) (.tmp 53) rfl wc.heap.size u49 (cs.take k) rfl o4 wc.heap.size g of m c (cs.drop (k + 1)) rfl hm (hcc.gnone hG (Nat.le_refl _)) (by have := HLS.out; simp; omega) hz ?_
              intro v' w' ho hg hat
              have hl0 : ∀ j, u49.ownBlock = some j → wc.heap.size ≤ j := fun j e => (o4.lt j e).1
              refine hK _ _ ⟨_, _, _, _, _, _, _, _, _, _, _, rfl, none_row hG hg hl0, ?_, ?_, ?_, ?_, ?_, ?_, ?_, ?_, ?_, ?_, ?_, ?_, ?_⟩
              all_goals simp only [E0, E1, E2, E3, E4, E5, E6, E7, E8, E9, E10]
              · intro _ h; rw [d_a1] at h; cases h
              · first | exact p_v1 | exact fun _ => trivial | (intros; trivial)
              · first | exact p_k1 | exact fun _ => trivial | (intros; trivial)
              · first | exact p_s1 | exact fun _ => trivial | (intros; trivial)
              · exact fun _ h => by cases h
              · first | exact p_v2 | exact fun _ => trivial | (intros; trivial)
              · first | exact p_k2 | exact fun _ => trivial | (intros; trivial)
              · first | exact p_ad | exact fun _ => trivial | (intros; trivial)
              · first | exact p_s2 | exact fun _ => trivial | (intros; trivial)
              · exact fun _ => ho
              · intro h; exact absurd (p_q2 h) (by rw [hLf]; decide)
              · first | exact fun _ => d_a1 | exact fun _ => trivial | (intros; trivial)
              · first | exact fun _ => rfl | exact fun _ => trivial | (intros; trivial)
            · have hLf : L.getD 10 false = false := getD_false hl (by rw [hs]; decide)
              have hsz : 10 < L.size := by rw [hs]; decide
              have E0 : (L.setIfInBounds 10 true).getD 0 false = L.getD 0 false := by rw [getD_setB _ _ _ _ hsz, if_neg (by decide)]
              have E1 : (L.setIfInBounds 10 true).getD 1 false = L.getD 1 false := by rw [getD_setB _ _ _ _ hsz, if_neg (by decide)]
              have E2 : (L.setIfInBounds 10 true).getD 2 false = L.getD 2 false := by rw [getD_setB _ _ _ _ hsz, if_neg (by decide)]
              have E3 : (L.setIfInBounds 10 true).getD 3 false = L.getD 3 false := by rw [getD_setB _ _ _ _ hsz, if_neg (by decide)]
              have E4 : (L.setIfInBounds 10 true).getD 4 false = L.getD 4 false := by rw [getD_setB _ _ _ _ hsz, if_neg (by decide)]
              have E5 : (L.setIfInBounds 10 true).getD 5 false = L.getD 5 false := by rw [getD_setB _ _ _ _ hsz, if_neg (by decide)]
              have E6 : (L.setIfInBounds 10 true).getD 6 false = L.getD 6 false := by rw [getD_setB _ _ _ _ hsz, if_neg (by decide)]
              have E7 : (L.setIfInBounds 10 true).getD 7 false = L.getD 7 false := by rw [getD_setB _ _ _ _ hsz, if_neg (by decide)]
              have E8 : (L.setIfInBounds 10 true).getD 8 false = L.getD 8 false := by rw [getD_setB _ _ _ _ hsz, if_neg (by decide)]
              have E9 : (L.setIfInBounds 10 true).getD 9 false = L.getD 9 false := by rw [getD_setB _ _ _ _ hsz, if_neg (by decide)]
              have E10 : (L.setIfInBounds 10 true).getD 10 false = true := by rw [getD_setB _ _ _ _ hsz, if_pos rfl]
              have d_a2 := hd _ rfl ⟨9, .data⟩ (by simp) rfl
              refine wpOp_run rfl rfl fun K hK => ?_
              clear hd hs hi hl
              go_simp
              refine hK _ _ ⟨_, _, _, _, _, _, _, _, _, _, _, rfl, hG, ?_, ?_, ?_, ?_, ?_, ?_, ?_, ?_, ?_, ?_, ?_, ?_, ?_⟩
              all_goals simp only [E0, E1, E2, E3, E4, E5, E6, E7, E8, E9, E10]
              · first | exact p_b | exact fun _ => trivial | (intros; trivial)
              · first | exact p_v1 | exact fun _ => trivial | (intros; trivial)
              · first | exact p_k1 | exact fun _ => trivial | (intros; trivial)
              · first | exact p_s1 | exact fun _ => trivial | (intros; trivial)
              · first | exact p_a1 | exact fun _ => trivial | (intros; trivial)
              · first | exact p_v2 | exact fun _ => trivial | (intros; trivial)
              · first | exact p_k2 | exact fun _ => trivial | (intros; trivial)
              · first | exact p_ad | exact fun _ => trivial | (intros; trivial)
              · first | exact p_s2 | exact fun _ => trivial | (intros; trivial)
              · first | exact p_a2 | exact fun _ => trivial | (intros; trivial)
              · first | exact fun _ => rfl | exact fun _ => trivial | (intros; trivial)
              · first | exact p_q1 | exact fun _ => trivial | (intros; trivial)
              · first | exact fun _ => d_a2 | exact fun _ => trivial | (intros; trivial)
          · rintro L act wd ⟨u9, u45, u46, u47, u48, u49, u50, u51, u52, u53, u54, rfl, hG, p_b, p_v1, p_k1, p_s1, p_a1, p_v2, p_k2, p_ad, p_s2, p_a2, p_z, p_q1, p_q2⟩ hall
            have hfin := p_a2 (hall 9 (by decide))
            obtain rfl := p_z (hall 10 (by decide))
            have HF : Hid (OwnC wd wc.heap.size u9 (cs.take k ++ cs.drop (k + 1)) ∧ wc.grownBy wd none) := ⟨hfin, hG⟩
            clear hG hall hfin p_b p_v1 p_k1 p_s1 p_a1 p_v2 p_k2 p_ad p_s2 p_a2 p_q1 p_q2
            have HOA := Lib.hid HF.out.1
            have HGA := Lib.hid HF.out.2
            have HB4 := Lib.hid (below_none HB3.out (Nat.le_refl _) HGA.out)
            have HCKd : Hid (Caches wd wd.heap.size (some ⟨g, off, none⟩) cs) := (HCK.out.gnone HGA.out (Nat.le_refl _)).mono HGA.out.size
            clear HF HL1 HL2 HC2 HCK HD1
            have HCK : Hid (Caches wd wd.heap.size (some ⟨g, off, none⟩) cs) := HCKd.out
            have HL1 : Hid ((cs.take (k + 1)).length = k + 1) := by show _ = _; rw [List.length_take]; omega
            have HL2 : Hid ((cs.drop k).length = cs.length - k) := List.length_drop
            have HC2 : Hid (∃ o, (if c1 = k then some (⟨g, off, none⟩ : Addr) else some ⟨g, off + k * 4, none⟩) = some ⟨g, o, none⟩ ∧ Caches wd wd.heap.size (some ⟨g, o, none⟩) (cs.drop k)) := by
              by_cases h : c1 = k
              · omega
              · exact ⟨off + k * 4, by rw [if_neg h], by rw [Nat.mul_comm]; exact HCK.out.dropK k⟩
            go_wp2_with fail
            refine wp_region_inv (by kernel_rfl) (InvB wd cs g off cs.length c1 k (.slice a len cap) (.slice a' len' cap') undef undef (.bool false) (.slice (some ⟨g, off, none⟩) cs.length c1) (.bool true) (.bool true) (.int .i64 (k : Int)) u9 (.slice a len cap) (.int .i64 (len : Int)) (.bool false) (.bool false) (.slice a' len' cap') (.int .i64 (len' : Int)) (.bool false) (.bool false) (.slice a len cap) (.slice (some ⟨g, off, none⟩) cs.length c1) (.slice (some ⟨g, off, none⟩) cs.length c1) (.bool true) (.slice (some ⟨g, off, none⟩) cs.length c1) (.bool true) (.bool true) (.bool true) (.bool false) (.bool false) (.bool true) (.bool false) (.bool false) (.bool false) (.slice (some ⟨g, off, none⟩) cs.length c1) (.int .i64 (cs.length : Int)) (.bool false) (.bool false) undef undef undef (.slice a' len' cap') (.int .i64 (len' : Int)) (.slice (some ⟨g, off, none⟩) cs.length c1) (.int .i64 (cs.length : Int)) (.int .i64 (k : Int)) u45 u46 u47 u48 u49 u50 u51 u52 u53 u9 undef undef undef undef undef undef undef) (by kernel_rfl) ?_ ?_ ?_
            · exact ⟨_, _, _, _, _, _, _, _, _, _, _, rfl, drewN_none wd 1, by simp, by simp, by simp, by simp, by simp, by simp, by simp, by simp, by simp, by simp, by simp, by simp, by simp⟩
            · rintro L act W i hs ⟨u10, u55, u56, u57, u58, u59, u60, u61, u62, u63, u64, rfl, hG, p_b, p_v1, p_k1, p_s1, p_a1, p_v2, p_k2, p_ad, p_s2, p_a2, p_z, p_q1, p_q2⟩ hi hl hd
              have hi' : i < 11 := hi
              have hc' : i = 0 ∨ i = 1 ∨ i = 2 ∨ i = 3 ∨ i = 4 ∨ i = 5 ∨ i = 6 ∨ i = 7 ∨ i = 8 ∨ i = 9 ∨ i = 10 := by omega
              rcases hc' with rfl | rfl | rfl | rfl | rfl | rfl | rfl | rfl | rfl | rfl | rfl
              · have hLf : L.getD 0 false = false := getD_false hl (by rw [hs]; decide)
                have hsz : 0 < L.size := by rw [hs]; decide
                have E1 : (L.setIfInBounds 0 true).getD 1 false = L.getD 1 false := by rw [getD_setB _ _ _ _ hsz, if_neg (by decide)]
                have E2 : (L.setIfInBounds 0 true).getD 2 false = L.getD 2 false := by rw [getD_setB _ _ _ _ hsz, if_neg (by decide)]
                have E3 : (L.setIfInBounds 0 true).getD 3 false = L.getD 3 false := by rw [getD_setB _ _ _ _ hsz, if_neg (by decide)]
                have E4 : (L.setIfInBounds 0 true).getD 4 false = L.getD 4 false := by rw [getD_setB _ _ _ _ hsz, if_neg (by decide)]
                have E5 : (L.setIfInBounds 0 true).getD 5 false = L.getD 5 false := by rw [getD_setB _ _ _ _ hsz, if_neg (by decide)]
                have E6 : (L.setIfInBounds 0 true).getD 6 false = L.getD 6 false := by rw [getD_setB _ _ _ _ hsz, if_neg (by decide)]
                have E7 : (L.setIfInBounds 0 true).getD 7 false = L.getD 7 false := by rw [getD_setB _ _ _ _ hsz, if_neg (by decide)]
                have E8 : (L.setIfInBounds 0 true).getD 8 false = L.getD 8 false := by rw [getD_setB _ _ _ _ hsz, if_neg (by decide)]
                have E9 : (L.setIfInBounds 0 true).getD 9 false = L.getD 9 false := by rw [getD_setB _ _ _ _ hsz, if_neg (by decide)]
                have E10 : (L.setIfInBounds 0 true).getD 10 false = L.getD 10 false := by rw [getD_setB _ _ _ _ hsz, if_neg (by decide)]
                have E0 : (L.setIfInBounds 0 true).getD 0 false = true := by rw [getD_setB _ _ _ _ hsz, if_pos rfl]
                refine wpOp_run rfl rfl fun K hK => ?_
                clear hd hs hi hl
                go_simp
                have ha : W.grownBy (W.alloc (.cells #[] 30)) none := World.grownBy_alloc _ _ _
                have hz := hG.size
                refine hK _ _ ⟨_, _, _, _, _, _, _, _, _, _, _, rfl, none_trans hG ha, ?_, ?_, ?_, ?_, ?_, ?_, ?_, ?_, ?_, ?_, ?_, ?_, ?_⟩
                all_goals simp only [E0, E1, E2, E3, E4, E5, E6, E7, E8, E9, E10]
                · first | exact fun _ _ => OwnC.lit W _ hz | exact fun _ => trivial | (intros; trivial)
                · first | exact p_v1 | exact fun _ => trivial | (intros; trivial)
                · first | exact p_k1 | exact fun _ => trivial | (intros; trivial)
                · first | exact p_s1 | exact fun _ => trivial | (intros; trivial)
                · first | exact fun h h2 => (p_a1 h h2).gnone ha | exact fun _ => trivial | (intros; trivial)
                · first | exact p_v2 | exact fun _ => trivial | (intros; trivial)
                · first | exact p_k2 | exact fun _ => trivial | (intros; trivial)
                · first | exact p_ad | exact fun _ => trivial | (intros; trivial)
                · first | exact p_s2 | exact fun _ => trivial | (intros; trivial)
                · first | exact fun h => (p_a2 h).gnone ha | exact fun _ => trivial | (intros; trivial)
                · first | exact p_z | exact fun _ => trivial | (intros; trivial)
                · first | exact p_q1 | exact fun _ => trivial | (intros; trivial)
                · first | exact p_q2 | exact fun _ => trivial | (intros; trivial)
              · have hLf : L.getD 1 false = false := getD_false hl (by rw [hs]; decide)
                have hsz : 1 < L.size := by rw [hs]; decide
                have E0 : (L.setIfInBounds 1 true).getD 0 false = L.getD 0 false := by rw [getD_setB _ _ _ _ hsz, if_neg (by decide)]
                have E2 : (L.setIfInBounds 1 true).getD 2 false = L.getD 2 false := by rw [getD_setB _ _ _ _ hsz, if_neg (by decide)]
                have E3 : (L.setIfInBounds 1 true).getD 3 false = L.getD 3 false := by rw [getD_setB _ _ _ _ hsz, if_neg (by decide)]
                have E4 : (L.setIfInBounds 1 true).getD 4 false = L.getD 4 false := by rw [getD_setB _ _ _ _ hsz, if_neg (by decide)]
                have E5 : (L.setIfInBounds 1 true).getD 5 false = L.getD 5 false := by rw [getD_setB _ _ _ _ hsz, if_neg (by decide)]
                have E6 : (L.setIfInBounds 1 true).getD 6 false = L.getD 6 false := by rw [getD_setB _ _ _ _ hsz, if_neg (by decide)]
                have E7 : (L.setIfInBounds 1 true).getD 7 false = L.getD 7 false := by rw [getD_setB _ _ _ _ hsz, if_neg (by decide)]
                have E8 : (L.setIfInBounds 1 true).getD 8 false = L.getD 8 false := by rw [getD_setB _ _ _ _ hsz, if_neg (by decide)]
                have E9 : (L.setIfInBounds 1 true).getD 9 false = L.getD 9 false := by rw [getD_setB _ _ _ _ hsz, if_neg (by decide)]
                have E10 : (L.setIfInBounds 1 true).getD 10 false = L.getD 10 false := by rw [getD_setB _ _ _ _ hsz, if_neg (by decide)]
                have E1 : (L.setIfInBounds 1 true).getD 1 false = true := by rw [getD_setB _ _ _ _ hsz, if_pos rfl]
                refine wpOp_run rfl rfl fun K hK => ?_
                clear hd hs hi hl
                go_simp
                refine hK _ _ ⟨_, _, _, _, _, _, _, _, _, _, _, rfl, hG, ?_, ?_, ?_, ?_, ?_, ?_, ?_, ?_, ?_, ?_, ?_, ?_, ?_⟩
                all_goals simp only [E0, E1, E2, E3, E4, E5, E6, E7, E8, E9, E10]
                · first | exact p_b | exact fun _ => trivial | (intros; trivial)
                · first | exact fun _ => rfl | exact fun _ => trivial | (intros; trivial)
                · first | exact p_k1 | exact fun _ => trivial | (intros; trivial)
                · first | exact p_s1 | exact fun _ => trivial | (intros; trivial)
                · first | exact p_a1 | exact fun _ => trivial | (intros; trivial)
                · first | exact p_v2 | exact fun _ => trivial | (intros; trivial)
                · first | exact p_k2 | exact fun _ => trivial | (intros; trivial)
                · first | exact p_ad | exact fun _ => trivial | (intros; trivial)
                · first | exact p_s2 | exact fun _ => trivial | (intros; trivial)
                · first | exact p_a2 | exact fun _ => trivial | (intros; trivial)
                · first | exact p_z | exact fun _ => trivial | (intros; trivial)
                · first | exact p_q1 | exact fun _ => trivial | (intros; trivial)
                · first | exact p_q2 | exact fun _ => trivial | (intros; trivial)
              · have hLf : L.getD 2 false = false := getD_false hl (by rw [hs]; decide)
                have hsz : 2 < L.size := by rw [hs]; decide
                have E0 : (L.setIfInBounds 2 true).getD 0 false = L.getD 0 false := by rw [getD_setB _ _ _ _ hsz, if_neg (by decide)]
                have E1 : (L.setIfInBounds 2 true).getD 1 false = L.getD 1 false := by rw [getD_setB _ _ _ _ hsz, if_neg (by decide)]
                have E3 : (L.setIfInBounds 2 true).getD 3 false = L.getD 3 false := by rw [getD_setB _ _ _ _ hsz, if_neg (by decide)]
                have E4 : (L.setIfInBounds 2 true).getD 4 false = L.getD 4 false := by rw [getD_setB _ _ _ _ hsz, if_neg (by decide)]
                have E5 : (L.setIfInBounds 2 true).getD 5 false = L.getD 5 false := by rw [getD_setB _ _ _ _ hsz, if_neg (by decide)]
                have E6 : (L.setIfInBounds 2 true).getD 6 false = L.getD 6 false := by rw [getD_setB _ _ _ _ hsz, if_neg (by decide)]
                have E7 : (L.setIfInBounds 2 true).getD 7 false = L.getD 7 false := by rw [getD_setB _ _ _ _ hsz, if_neg (by decide)]
                have E8 : (L.setIfInBounds 2 true).getD 8 false = L.getD 8 false := by rw [getD_setB _ _ _ _ hsz, if_neg (by decide)]
                have E9 : (L.setIfInBounds 2 true).getD 9 false = L.getD 9 false := by rw [getD_setB _ _ _ _ hsz, if_neg (by decide)]
                have E10 : (L.setIfInBounds 2 true).getD 10 false = L.getD 10 false := by rw [getD_setB _ _ _ _ hsz, if_neg (by decide)]
                have E2 : (L.setIfInBounds 2 true).getD 2 false = true := by rw [getD_setB _ _ _ _ hsz, if_pos rfl]
                refine wpOp_run rfl rfl fun K hK => ?_
                clear hd hs hi hl
                go_simp
                refine hK _ _ ⟨_, _, _, _, _, _, _, _, _, _, _, rfl, hG, ?_, ?_, ?_, ?_, ?_, ?_, ?_, ?_, ?_, ?_, ?_, ?_, ?_⟩
                all_goals simp only [E0, E1, E2, E3, E4, E5, E6, E7, E8, E9, E10]
                · first | exact p_b | exact fun _ => trivial | (intros; trivial)
                · first | exact p_v1 | exact fun _ => trivial | (intros; trivial)
                · first | exact fun _ => rfl | exact fun _ => trivial | (intros; trivial)
                · first | exact p_s1 | exact fun _ => trivial | (intros; trivial)
                · first | exact p_a1 | exact fun _ => trivial | (intros; trivial)
                · first | exact p_v2 | exact fun _ => trivial | (intros; trivial)
                · first | exact p_k2 | exact fun _ => trivial | (intros; trivial)
                · first | exact p_ad | exact fun _ => trivial | (intros; trivial)
                · first | exact p_s2 | exact fun _ => trivial | (intros; trivial)
                · first | exact p_a2 | exact fun _ => trivial | (intros; trivial)
                · first | exact p_z | exact fun _ => trivial | (intros; trivial)
                · first | exact p_q1 | exact fun _ => trivial | (intros; trivial)
                · first | exact p_q2 | exact fun _ => trivial | (intros; trivial)
              · have hLf : L.getD 3 false = false := getD_false hl (by rw [hs]; decide)
                have hsz : 3 < L.size := by rw [hs]; decide
                have E0 : (L.setIfInBounds 3 true).getD 0 false = L.getD 0 false := by rw [getD_setB _ _ _ _ hsz, if_neg (by decide)]
                have E1 : (L.setIfInBounds 3 true).getD 1 false = L.getD 1 false := by rw [getD_setB _ _ _ _ hsz, if_neg (by decide)]
                have E2 : (L.setIfInBounds 3 true).getD 2 false = L.getD 2 false := by rw [getD_setB _ _ _ _ hsz, if_neg (by decide)]
                have E4 : (L.setIfInBounds 3 true).getD 4 false = L.getD 4 false := by rw [getD_setB _ _ _ _ hsz, if_neg (by decide)]
                have E5 : (L.setIfInBounds 3 true).getD 5 false = L.getD 5 false := by rw [getD_setB _ _ _ _ hsz, if_neg (by decide)]
                have E6 : (L.setIfInBounds 3 true).getD 6 false = L.getD 6 false := by rw [getD_setB _ _ _ _ hsz, if_neg (by decide)]
                have E7 : (L.setIfInBounds 3 true).getD 7 false = L.getD 7 false := by rw [getD_setB _ _ _ _ hsz, if_neg (by decide)]
                have E8 : (L.setIfInBounds 3 true).getD 8 false = L.getD 8 false := by rw [getD_setB _ _ _ _ hsz, if_neg (by decide)]
                have E9 : (L.setIfInBounds 3 true).getD 9 false = L.getD 9 false := by rw [getD_setB _ _ _ _ hsz, if_neg (by decide)]
                have E10 : (L.setIfInBounds 3 true).getD 10 false = L.getD 10 false := by rw [getD_setB _ _ _ _ hsz, if_neg (by decide)]
                have E3 : (L.setIfInBounds 3 true).getD 3 false = true := by rw [getD_setB _ _ _ _ hsz, if_pos rfl]
                have d_k1 := hd _ rfl ⟨2, .data⟩ (by simp) rfl
                obtain rfl := p_k1 d_k1
                refine wpOp_run rfl rfl fun K hK => ?_
                clear hd hs hi hl
                go_simp
                try simp only [HWR.out]
                refine hK _ _ ⟨_, _, _, _, _, _, _, _, _, _, _, rfl, hG, ?_, ?_, ?_, ?_, ?_, ?_, ?_, ?_, ?_, ?_, ?_, ?_, ?_⟩
                all_goals simp only [E0, E1, E2, E3, E4, E5, E6, E7, E8, E9, E10]
                · first | exact p_b | exact fun _ => trivial | (intros; trivial)
                · first | exact p_v1 | exact fun _ => trivial | (intros; trivial)
                · first | exact p_k1 | exact fun _ => trivial | (intros; trivial)
                · first | exact p_s1 | exact fun _ => trivial | (intros; trivial)
                · first | exact p_a1 | exact fun _ => trivial | (intros; trivial)
                · first | exact p_v2 | exact fun _ => trivial | (intros; trivial)
                · first | exact p_k2 | exact fun _ => trivial | (intros; trivial)
                · first | exact fun _ => rfl | exact fun _ => trivial | (intros; trivial)
                · first | exact p_s2 | exact fun _ => trivial | (intros; trivial)
                · first | exact p_a2 | exact fun _ => trivial | (intros; trivial)
                · first | exact p_z | exact fun _ => trivial | (intros; trivial)
                · first | exact p_q1 | exact fun _ => trivial | (intros; trivial)
                · first | exact p_q2 | exact fun _ => trivial | (intros; trivial)
              · have hLf : L.getD 4 false = false := getD_false hl (by rw [hs]; decide)
                have hsz : 4 < L.size := by rw [hs]; decide
                have E0 : (L.setIfInBounds 4 true).getD 0 false = L.getD 0 false := by rw [getD_setB _ _ _ _ hsz, if_neg (by decide)]
                have E1 : (L.setIfInBounds 4 true).getD 1 false = L.getD 1 false := by rw [getD_setB _ _ _ _ hsz, if_neg (by decide)]
                have E2 : (L.setIfInBounds 4 true).getD 2 false = L.getD 2 false := by rw [getD_setB _ _ _ _ hsz, if_neg (by decide)]
                have E3 : (L.setIfInBounds 4 true).getD 3 false = L.getD 3 false := by rw [getD_setB _ _ _ _ hsz, if_neg (by decide)]
                have E5 : (L.setIfInBounds 4 true).getD 5 false = L.getD 5 false := by rw [getD_setB _ _ _ _ hsz, if_neg (by decide)]
                have E6 : (L.setIfInBounds 4 true).getD 6 false = L.getD 6 false := by rw [getD_setB _ _ _ _ hsz, if_neg (by decide)]
                have E7 : (L.setIfInBounds 4 true).getD 7 false = L.getD 7 false := by rw [getD_setB _ _ _ _ hsz, if_neg (by decide)]
                have E8 : (L.setIfInBounds 4 true).getD 8 false = L.getD 8 false := by rw [getD_setB _ _ _ _ hsz, if_neg (by decide)]
                have E9 : (L.setIfInBounds 4 true).getD 9 false = L.getD 9 false := by rw [getD_setB _ _ _ _ hsz, if_neg (by decide)]
                have E10 : (L.setIfInBounds 4 true).getD 10 false = L.getD 10 false := by rw [getD_setB _ _ _ _ hsz, if_neg (by decide)]
                have E4 : (L.setIfInBounds 4 true).getD 4 false = true := by rw [getD_setB _ _ _ _ hsz, if_pos rfl]
                have d_v1 := hd _ rfl ⟨1, .data⟩ (by simp) rfl
                have d_ad := hd _ rfl ⟨3, .data⟩ (by simp) rfl
                obtain rfl := p_v1 d_v1
                obtain rfl := p_ad d_ad
                refine wpOp_run rfl rfl fun K hK => ?_
                clear hd hs hi hl
                go_simp
                refine hK _ _ ⟨_, _, _, _, _, _, _, _, _, _, _, rfl, hG, ?_, ?_, ?_, ?_, ?_, ?_, ?_, ?_, ?_, ?_, ?_, ?_, ?_⟩
                all_goals simp only [E0, E1, E2, E3, E4, E5, E6, E7, E8, E9, E10]
                · first | exact p_b | exact fun _ => trivial | (intros; trivial)
                · first | exact p_v1 | exact fun _ => trivial | (intros; trivial)
                · first | exact p_k1 | exact fun _ => trivial | (intros; trivial)
                · exact fun _ => ⟨_, _, rfl, HL1.out⟩
                · first | exact p_a1 | exact fun _ => trivial | (intros; trivial)
                · first | exact p_v2 | exact fun _ => trivial | (intros; trivial)
                · first | exact p_k2 | exact fun _ => trivial | (intros; trivial)
                · first | exact p_ad | exact fun _ => trivial | (intros; trivial)
                · first | exact p_s2 | exact fun _ => trivial | (intros; trivial)
                · first | exact p_a2 | exact fun _ => trivial | (intros; trivial)
                · first | exact p_z | exact fun _ => trivial | (intros; trivial)
                · first | exact p_q1 | exact fun _ => trivial | (intros; trivial)
                · first | exact p_q2 | exact fun _ => trivial | (intros; trivial)
              · have hLf : L.getD 5 false = false := getD_false hl (by rw [hs]; decide)
                have hsz : 5 < L.size := by rw [hs]; decide
                have E0 : (L.setIfInBounds 5 true).getD 0 false = L.getD 0 false := by rw [getD_setB _ _ _ _ hsz, if_neg (by decide)]
                have E1 : (L.setIfInBounds 5 true).getD 1 false = L.getD 1 false := by rw [getD_setB _ _ _ _ hsz, if_neg (by decide)]
                have E2 : (L.setIfInBounds 5 true).getD 2 false = L.getD 2 false := by rw [getD_setB _ _ _ _ hsz, if_neg (by decide)]
                have E3 : (L.setIfInBounds 5 true).getD 3 false = L.getD 3 false := by rw [getD_setB _ _ _ _ hsz, if_neg (by decide)]
                have E4 : (L.setIfInBounds 5 true).getD 4 false = L.getD 4 false := by rw [getD_setB _ _ _ _ hsz, if_neg (by decide)]
                have E6 : (L.setIfInBounds 5 true).getD 6 false = L.getD 6 false := by rw [getD_setB _ _ _ _ hsz, if_neg (by decide)]
                have E7 : (L.setIfInBounds 5 true).getD 7 false = L.getD 7 false := by rw [getD_setB _ _ _ _ hsz, if_neg (by decide)]
                have E8 : (L.setIfInBounds 5 true).getD 8 false = L.getD 8 false := by rw [getD_setB _ _ _ _ hsz, if_neg (by decide)]
                have E9 : (L.setIfInBounds 5 true).getD 9 false = L.getD 9 false := by rw [getD_setB _ _ _ _ hsz, if_neg (by decide)]
                have E10 : (L.setIfInBounds 5 true).getD 10 false = L.getD 10 false := by rw [getD_setB _ _ _ _ hsz, if_neg (by decide)]
                have E5 : (L.setIfInBounds 5 true).getD 5 false = true := by rw [getD_setB _ _ _ _ hsz, if_pos rfl]
                have d_b := hd _ rfl ⟨0, .data⟩ (by simp) rfl
                have d_s1 := hd _ rfl ⟨4, .data⟩ (by simp) rfl
                obtain ⟨m, c, rfl, hm⟩ := p_s1 d_s1
                have o0 := p_b d_b hLf
                refine wpOp_run rfl rfl fun K hK => ?_
                clear hd hs hi hl
                have hz := hG.size
                refine wp_appC_at (.tmp 55) (.tmp 59) rfl wd.heap.size u55 [] rfl o0 wd.heap.size g off m c (cs.take (k + 1)) rfl hm ((HCK.out.gnone hG (Nat.le_refl _)).take _) (by have := HLS.out; simp; omega) hz ?_
                intro v' w' ho hg hat
                have hl0 : ∀ j, u55.ownBlock = some j → wd.heap.size ≤ j := fun j e => (o0.lt j e).1
                refine hK _ _ ⟨_, _, _, _, _, _, _, _, _, _, _, rfl, none_row hG hg hl0, ?_, ?_, ?_, ?_, ?_, ?_, ?_, ?_, ?_, ?_, ?_, ?_, ?_⟩
                all_goals simp only [E0, E1, E2, E3, E4, E5, E6, E7, E8, E9, E10]
                · exact fun _ h => by cases h
                · first | exact p_v1 | exact fun _ => trivial | (intros; trivial)
                · first | exact p_k1 | exact fun _ => trivial | (intros; trivial)
                · first | exact p_s1 | exact fun _ => trivial | (intros; trivial)
                · exact fun _ _ => by simpa using ho
                · first | exact p_v2 | exact fun _ => trivial | (intros; trivial)
                · first | exact p_k2 | exact fun _ => trivial | (intros; trivial)
                · first | exact p_ad | exact fun _ => trivial | (intros; trivial)
                · first | exact p_s2 | exact fun _ => trivial | (intros; trivial)
                · intro h; exact absurd (p_q1 h) (by rw [hLf]; decide)
                · first | exact p_z | exact fun _ => trivial | (intros; trivial)
                · first | exact fun _ => rfl | exact fun _ => trivial | (intros; trivial)
                · first | exact p_q2 | exact fun _ => trivial | (intros; trivial)
              · have hLf : L.getD 6 false = false := getD_false hl (by rw [hs]; decide)
                have hsz : 6 < L.size := by rw [hs]; decide
                have E0 : (L.setIfInBounds 6 true).getD 0 false = L.getD 0 false := by rw [getD_setB _ _ _ _ hsz, if_neg (by decide)]
                have E1 : (L.setIfInBounds 6 true).getD 1 false = L.getD 1 false := by rw [getD_setB _ _ _ _ hsz, if_neg (by decide)]
                have E2 : (L.setIfInBounds 6 true).getD 2 false = L.getD 2 false := by rw [getD_setB _ _ _ _ hsz, if_neg (by decide)]
                have E3 : (L.setIfInBounds 6 true).getD 3 false = L.getD 3 false := by rw [getD_setB _ _ _ _ hsz, if_neg (by decide)]
                have E4 : (L.setIfInBounds 6 true).getD 4 false = L.getD 4 false := by rw [getD_setB _ _ _ _ hsz, if_neg (by decide)]
                have E5 : (L.setIfInBounds 6 true).getD 5 false = L.getD 5 false := by rw [getD_setB _ _ _ _ hsz, if_neg (by decide)]
                have E7 : (L.setIfInBounds 6 true).getD 7 false = L.getD 7 false := by rw [getD_setB _ _ _ _ hsz, if_neg (by decide)]
                have E8 : (L.setIfInBounds 6 true).getD 8 false = L.getD 8 false := by rw [getD_setB _ _ _ _ hsz, if_neg (by decide)]
                have E9 : (L.setIfInBounds 6 true).getD 9 false = L.getD 9 false := by rw [getD_setB _ _ _ _ hsz, if_neg (by decide)]
                have E10 : (L.setIfInBounds 6 true).getD 10 false = L.getD 10 false := by rw [getD_setB _ _ _ _ hsz, if_neg (by decide)]
                have E6 : (L.setIfInBounds 6 true).getD 6 false = true := by rw [getD_setB _ _ _ _ hsz, if_pos rfl]
                refine wpOp_run rfl rfl fun K hK => ?_
                clear hd hs hi hl
                go_simp
                refine hK _ _ ⟨_, _, _, _, _, _, _, _, _, _, _, rfl, hG, ?_, ?_, ?_, ?_, ?_, ?_, ?_, ?_, ?_, ?_, ?_, ?_, ?_⟩
                all_goals simp only [E0, E1, E2, E3, E4, E5, E6, E7, E8, E9, E10]
                · first | exact p_b | exact fun _ => trivial | (intros; trivial)
                · first | exact p_v1 | exact fun _ => trivial | (intros; trivial)
                · first | exact p_k1 | exact fun _ => trivial | (intros; trivial)
                · first | exact p_s1 | exact fun _ => trivial | (intros; trivial)
                · first | exact p_a1 | exact fun _ => trivial | (intros; trivial)
                · first | exact fun _ => rfl | exact fun _ => trivial | (intros; trivial)
                · first | exact p_k2 | exact fun _ => trivial | (intros; trivial)
                · first | exact p_ad | exact fun _ => trivial | (intros; trivial)
                · first | exact p_s2 | exact fun _ => trivial | (intros; trivial)
                · first | exact p_a2 | exact fun _ => trivial | (intros; trivial)
                · first | exact p_z | exact fun _ => trivial | (intros; trivial)
                · first | exact p_q1 | exact fun _ => trivial | (intros; trivial)
                · first | exact p_q2 | exact fun _ => trivial | (intros; trivial)
              · have hLf : L.getD 7 false = false := getD_false hl (by rw [hs]; decide)
                have hsz : 7 < L.size := by rw [hs]; decide
                have E0 : (L.setIfInBounds 7 true).getD 0 false = L.getD 0 false := by rw [getD_setB _ _ _ _ hsz, if_neg (by decide)]
                have E1 : (L.setIfInBounds 7 true).getD 1 false = L.getD 1 false := by rw [getD_setB _ _ _ _ hsz, if_neg (by decide)]
                have E2 : (L.setIfInBounds 7 true).getD 2 false = L.getD 2 false := by rw [getD_setB _ _ _ _ hsz, if_neg (by decide)]
                have E3 : (L.setIfInBounds 7 true).getD 3 false = L.getD 3 false := by rw [getD_setB _ _ _ _ hsz, if_neg (by decide)]
                have E4 : (L.setIfInBounds 7 true).getD 4 false = L.getD 4 false := by rw [getD_setB _ _ _ _ hsz, if_neg (by decide)]
                have E5 : (L.setIfInBounds 7 true).getD 5 false = L.getD 5 false := by rw [getD_setB _ _ _ _ hsz, if_neg (by decide)]
                have E6 : (L.setIfInBounds 7 true).getD 6 false = L.getD 6 false := by rw [getD_setB _ _ _ _ hsz, if_neg (by decide)]
                have E8 : (L.setIfInBounds 7 true).getD 8 false = L.getD 8 false := by rw [getD_setB _ _ _ _ hsz, if_neg (by decide)]
                have E9 : (L.setIfInBounds 7 true).getD 9 false = L.getD 9 false := by rw [getD_setB _ _ _ _ hsz, if_neg (by decide)]
                have E10 : (L.setIfInBounds 7 true).getD 10 false = L.getD 10 false := by rw [getD_setB _ _ _ _ hsz, if_neg (by decide)]
                have E7 : (L.setIfInBounds 7 true).getD 7 false = true := by rw [getD_setB _ _ _ _ hsz, if_pos rfl]
                refine wpOp_run rfl rfl fun K hK => ?_
                clear hd hs hi hl
                go_simp
                refine hK _ _ ⟨_, _, _, _, _, _, _, _, _, _, _, rfl, hG, ?_, ?_, ?_, ?_, ?_, ?_, ?_, ?_, ?_, ?_, ?_, ?_, ?_⟩
                all_goals simp only [E0, E1, E2, E3, E4, E5, E6, E7, E8, E9, E10]
                · first | exact p_b | exact fun _ => trivial | (intros; trivial)
                · first | exact p_v1 | exact fun _ => trivial | (intros; trivial)
                · first | exact p_k1 | exact fun _ => trivial | (intros; trivial)
                · first | exact p_s1 | exact fun _ => trivial | (intros; trivial)
                · first | exact p_a1 | exact fun _ => trivial | (intros; trivial)
                · first | exact p_v2 | exact fun _ => trivial | (intros; trivial)
                · first | exact fun _ => rfl | exact fun _ => trivial | (intros; trivial)
                · first | exact p_ad | exact fun _ => trivial | (intros; trivial)
                · first | exact p_s2 | exact fun _ => trivial | (intros; trivial)
                · first | exact p_a2 | exact fun _ => trivial | (intros; trivial)
                · first | exact p_z | exact fun _ => trivial | (intros; trivial)
                · first | exact p_q1 | exact fun _ => trivial | (intros; trivial)
                · first | exact p_q2 | exact fun _ => trivial | (intros; trivial)
              · have hLf : L.getD 8 false = false := getD_false hl (by rw [hs]; decide)
                have hsz : 8 < L.size := by rw [hs]; decide
                have E0 : (L.setIfInBounds 8 true).getD 0 false = L.getD 0 false := by rw [getD_setB _ _ _ _ hsz, if_neg (by decide)]
                have E1 : (L.setIfInBounds 8 true).getD 1 false = L.getD 1 false := by rw [getD_setB _ _ _ _ hsz, if_neg (by decide)]
                have E2 : (L.setIfInBounds 8 true).getD 2 false = L.getD 2 false := by rw [getD_setB _ _ _ _ hsz, if_neg (by decide)]
                have E3 : (L.setIfInBounds 8 true).getD 3 false = L.getD 3 false := by rw [getD_setB _ _ _ _ hsz, if_neg (by decide)]
                have E4 : (L.setIfInBounds 8 true).getD 4 false = L.getD 4 false := by rw [getD_setB _ _ _ _ hsz, if_neg (by decide)]
                have E5 : (L.setIfInBounds 8 true).getD 5 false = L.getD 5 false := by rw [getD_setB _ _ _ _ hsz, if_neg (by decide)]
                have E6 : (L.setIfInBounds 8 true).getD 6 false = L.getD 6 false := by rw [getD_setB _ _ _ _ hsz, if_neg (by decide)]
                have E7 : (L.setIfInBounds 8 true).getD 7 false = L.getD 7 false := by rw [getD_setB _ _ _ _ hsz, if_neg (by decide)]
                have E9 : (L.setIfInBounds 8 true).getD 9 false = L.getD 9 false := by rw [getD_setB _ _ _ _ hsz, if_neg (by decide)]
                have E10 : (L.setIfInBounds 8 true).getD 10 false = L.getD 10 false := by rw [getD_setB _ _ _ _ hsz, if_neg (by decide)]
                have E8 : (L.setIfInBounds 8 true).getD 8 false = true := by rw [getD_setB _ _ _ _ hsz, if_pos rfl]
                have d_v2 := hd _ rfl ⟨6, .data⟩ (by simp) rfl
                have d_k2 := hd _ rfl ⟨7, .data⟩ (by simp) rfl
                obtain rfl := p_v2 d_v2
                obtain rfl := p_k2 d_k2
                refine wpOp_run rfl rfl fun K hK => ?_
                clear hd hs hi hl
                go_simp
                refine hK _ _ ⟨_, _, _, _, _, _, _, _, _, _, _, rfl, hG, ?_, ?_, ?_, ?_, ?_, ?_, ?_, ?_, ?_, ?_, ?_, ?_, ?_⟩
                all_goals simp only [E0, E1, E2, E3, E4, E5, E6, E7, E8, E9, E10]
                · first | exact p_b | exact fun _ => trivial | (intros; trivial)
                · first | exact p_v1 | exact fun _ => trivial | (intros; trivial)
                · first | exact p_k1 | exact fun _ => trivial | (intros; trivial)
                · first | exact p_s1 | exact fun _ => trivial | (intros; trivial)
                · first | exact p_a1 | exact fun _ => trivial | (intros; trivial)
                · first | exact p_v2 | exact fun _ => trivial | (intros; trivial)
                · first | exact p_k2 | exact fun _ => trivial | (intros; trivial)
                · first | exact p_ad | exact fun _ => trivial | (intros; trivial)
                · intro _; obtain ⟨o, ho1, ho2⟩ := HC2.out; exact ⟨o, _, _, congrArg (fun z => Value.slice z _ _) ho1, HL2.out, ho2⟩
                · first | exact p_a2 | exact fun _ => trivial | (intros; trivial)
                · first | exact p_z | exact fun _ => trivial | (intros; trivial)
                · first | exact p_q1 | exact fun _ => trivial | (intros; trivial)
                · first | exact p_q2 | exact fun _ => trivial | (intros; trivial)
              · have hLf : L.getD 9 false = false := getD_false hl (by rw [hs]; decide)
                have hsz : 9 < L.size := by rw [hs]; decide
                have E0 : (L.setIfInBounds 9 true).getD 0 false = L.getD 0 false := by rw [getD_setB _ _ _ _ hsz, if_neg (by decide)]
                have E1 : (L.setIfInBounds 9 true).getD 1 false = L.getD 1 false := by rw [getD_setB _ _ _ _ hsz, if_neg (by decide)]
                have E2 : (L.setIfInBounds 9 true).getD 2 false = L.getD 2 false := by rw [getD_setB _ _ _ _ hsz, if_neg (by decide)]
                have E3 : (L.setIfInBounds 9 true).getD 3 false = L.getD 3 false := by rw [getD_setB _ _ _ _ hsz, if_neg (by decide)]
                have E4 : (L.setIfInBounds 9 true).getD 4 false = L.getD 4 false := by rw [getD_setB _ _ _ _ hsz, if_neg (by decide)]
                have E5 : (L.setIfInBounds 9 true).getD 5 false = L.getD 5 false := by rw [getD_setB _ _ _ _ hsz, if_neg (by decide)]
                have E6 : (L.setIfInBounds 9 true).getD 6 false = L.getD 6 false := by rw [getD_setB _ _ _ _ hsz, if_neg (by decide)]
                have E7 : (L.setIfInBounds 9 true).getD 7 false = L.getD 7 false := by rw [getD_setB _ _ _ _ hsz, if_neg (by decide)]
                have E8 : (L.setIfInBounds 9 true).getD 8 false = L.getD 8 false := by rw [getD_setB _ _ _ _ hsz, if_neg (by decide)]
                have E10 : (L.setIfInBounds 9 true).getD 10 false = L.getD 10 false := by rw [getD_setB _ _ _ _ hsz, if_neg (by decide)]
                have E9 : (L.setIfInBounds 9 true).getD 9 false = true := by rw [getD_setB _ _ _ _ hsz, if_pos rfl]
                have d_a1 := hd _ rfl ⟨5, .data⟩ (by simp) rfl
                have d_s2 := hd _ rfl ⟨8, .data⟩ (by simp) rfl
                obtain ⟨of, m, c, rfl, hm, hcc⟩ := p_s2 d_s2
                have o4 := p_a1 d_a1 hLf
                refine wpOp_run rfl rfl fun K hK => ?_
                clear hd hs hi hl
                have hz := hG.size
                refine wp_appC_at (.tmp 60) (.tmp 63) rfl wd.heap.size u60 (cs.take (k + 1)) rfl o4 wd.heap.size g of m c (cs.drop k) rfl hm (hcc.gnone hG (Nat.le_refl _)) (by have := HLS.out; simp; omega) hz ?_
                intro v' w' ho hg hat
                have hl0 : ∀ j, u60.ownBlock = some j → wd.heap.size ≤ j := fun j e => (o4.lt j e).1
                refine hK _ _ ⟨_, _, _, _, _, _, _, _, _, _, _, rfl, none_row hG hg hl0, ?_, ?_, ?_, ?_, ?_, ?_, ?_, ?_, ?_, ?_, ?_, ?_, ?_⟩
                all_goals simp only [E0, E1, E2, E3, E4, E5, E6, E7, E8, E9, E10]
                · intro _ h; rw [d_a1] at h; cases h
                · first | exact p_v1 | exact fun _ => trivial | (intros; trivial)
                · first | exact p_k1 | exact fun _ => trivial | (intros; trivial)
                · first | exact p_s1 | exact fun _ => trivial | (intros; trivial)
                · exact fun _ h => by cases h
                · first | exact p_v2 | exact fun _ => trivial | (intros; trivial)
                · first | exact p_k2 | exact fun _ => trivial | (intros; trivial)
                · first | exact p_ad | exact fun _ => trivial | (intros; trivial)
                · first | exact p_s2 | exact fun _ => trivial | (intros; trivial)
                · exact fun _ => ho
                · intro h; exact absurd (p_q2 h) (by rw [hLf]; decide)
                · first | exact fun _ => d_a1 | exact fun _ => trivial | (intros; trivial)
                · first | exact fun _ => rfl | exact fun _ => trivial | (intros; trivial)
              · have hLf : L.getD 10 false = false := getD_false hl (by rw [hs]; decide)
                have hsz : 10 < L.size := by rw [hs]; decide
                have E0 : (L.setIfInBounds 10 true).getD 0 false = L.getD 0 false := by rw [getD_setB _ _ _ _ hsz, if_neg (by decide)]
                have E1 : (L.setIfInBounds 10 true).getD 1 false = L.getD 1 false := by rw [getD_setB _ _ _ _ hsz, if_neg (by decide)]
                have E2 : (L.setIfInBounds 10 true).getD 2 false = L.getD 2 false := by rw [getD_setB _ _ _ _ hsz, if_neg (by decide)]
                have E3 : (L.setIfInBounds 10 true).getD 3 false = L.getD 3 false := by rw [getD_setB _ _ _ _ hsz, if_neg (by decide)]
                have E4 : (L.setIfInBounds 10 true).getD 4 false = L.getD 4 false := by rw [getD_setB _ _ _ _ hsz, if_neg (by decide)]
                have E5 : (L.setIfInBounds 10 true).getD 5 false = L.getD 5 false := by rw [getD_setB _ _ _ _ hsz, if_neg (by decide)]
                have E6 : (L.setIfInBounds 10 true).getD 6 false = L.getD 6 false := by rw [getD_setB _ _ _ _ hsz, if_neg (by decide)]
                have E7 : (L.setIfInBounds 10 true).getD 7 false = L.getD 7 false := by rw [getD_setB _ _ _ _ hsz, if_neg (by decide)]
                have E8 : (L.setIfInBounds 10 true).getD 8 false = L.getD 8 false := by rw [getD_setB _ _ _ _ hsz, if_neg (by decide)]
                have E9 : (L.setIfInBounds 10 true).getD 9 false = L.getD 9 false := by rw [getD_setB _ _ _ _ hsz, if_neg (by decide)]
                have E10 : (L.setIfInBounds 10 true).getD 10 false = true := by rw [getD_setB _ _ _ _ hsz, if_pos rfl]
                have d_a2 := hd _ rfl ⟨9, .data⟩ (by simp) rfl
                refine wpOp_run rfl rfl fun K hK => ?_
                clear hd hs hi hl
                go_simp
                refine hK _ _ ⟨_, _, _, _, _, _, _, _, _, _, _, rfl, hG, ?_, ?_, ?_, ?_, ?_, ?_, ?_, ?_, ?_, ?_, ?_, ?_, ?_⟩
                all_goals simp only [E0, E1, E2, E3, E4, E5, E6, E7, E8, E9, E10]
                · first | exact p_b | exact fun _ => trivial | (intros; trivial)
                · first | exact p_v1 | exact fun _ => trivial | (intros; trivial)
                · first | exact p_k1 | exact fun _ => trivial | (intros; trivial)
                · first | exact p_s1 | exact fun _ => trivial | (intros; trivial)
                · first | exact p_a1 | exact fun _ => trivial | (intros; trivial)
                · first | exact p_v2 | exact fun _ => trivial | (intros; trivial)
                · first | exact p_k2 | exact fun _ => trivial | (intros; trivial)
                · first | exact p_ad | exact fun _ => trivial | (intros; trivial)
                · first | exact p_s2 | exact fun _ => trivial | (intros; trivial)
                · first | exact p_a2 | exact fun _ => trivial | (intros; trivial)
                · first | exact fun _ => rfl | exact fun _ => trivial | (intros; trivial)
                · first | exact p_q1 | exact fun _ => trivial | (intros; trivial)
                · first | exact fun _ => d_a2 | exact fun _ => trivial | (intros; trivial)
            · rintro L act we ⟨u10, u55, u56, u57, u58, u59, u60, u61, u62, u63, u64, rfl, hG, p_b, p_v1, p_k1, p_s1, p_a1, p_v2, p_k2, p_ad, p_s2, p_a2, p_z, p_q1, p_q2⟩ hall
              have hfin := p_a2 (hall 9 (by decide))
              obtain rfl := p_z (hall 10 (by decide))
              have HF : Hid (OwnC we wd.heap.size u10 (cs.take (k + 1) ++ cs.drop k) ∧ wd.grownBy we none) := ⟨hfin, hG⟩
              clear hG hall hfin p_b p_v1 p_k1 p_s1 p_a1 p_v2 p_k2 p_ad p_s2 p_a2 p_q1 p_q2
              have HOB := Lib.hid HF.out.1
              have HGB := Lib.hid HF.out.2
              have HB5 := Lib.hid (below_none HB4.out (Nat.le_refl _) HGB.out)
              have HOA2 := Lib.hid (HOA.out.gnone HGB.out)
              clear HF HL1 HL2 HC2 HCK HOA
              obtain ⟨x9, c9, rfl, hk9, _, hm9⟩ := HOA2.out.caches (fun g e => (HOA2.out.lt g e).2)
              obtain ⟨x10, c10, rfl, hk10, _, hm10⟩ := HOB.out.caches (fun g e => (HOB.out.lt g e).2)
              have HM9 := Lib.hid hm9
              have HM10 := Lib.hid hm10
              have HK9 := Lib.hid hk9
              have HK10 := Lib.hid hk10
              have HL9 : Hid ((cs.take k ++ cs.drop (k + 1)).length ≤ 1048576) := by show _ ≤ _; rw [List.length_append, List.length_take, List.length_drop]; omega
              have HL10 : Hid ((cs.take (k + 1) ++ cs.drop k).length ≤ 1048576) := by show _ ≤ _; rw [List.length_append, List.length_take, List.length_drop]; omega
              have HV9 : Hid (ccB (cs.take k ++ cs.drop (k + 1)) = true) := erase_ok HV.out k
              have HV10 : Hid (ccB (cs.take (k + 1) ++ cs.drop k) = false) := twice_bad hkl
              clear hm9 hm10 hk9 hk10 HOB HOA2
              generalize cs.take k ++ cs.drop (k + 1) = X9 at *
              generalize cs.take (k + 1) ++ cs.drop k = X10 at *
              go_wp2_with fail
              refine (implCacheValid_c we.heap.size x9 c9 X9 _ HM9.out (Nat.le_refl _) HL9.out HK9.out).mono ?_
              rintro e wf ⟨rfl, hgf⟩
              rw [HV9.out]
              have HB6 := Lib.hid (below_none HB5.out (Nat.le_refl _) hgf)
              have HM10f := Lib.hid (HM10.out.gnone hgf (Nat.le_refl _))
              have HZf := Lib.hid hgf.size
              clear hgf
              go_wp2_with fail
              refine (implCacheValid_c we.heap.size x10 c10 X10 _ HM10f.out HZf.out HL10.out HK10.out).mono ?_
              rintro e wg ⟨rfl, hgg⟩
              rw [HV10.out]
              have HB7 := Lib.hid (below_none HB6.out (Nat.le_refl _) hgg)
              clear hgg
              go_wp2_with fail
              go_ret
              exact ⟨rfl, HB7.out⟩
end Go.Proofs.Ythgdhikgknmioaa
