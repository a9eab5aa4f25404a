/-
  The drawing of a memory, a frame and an address. No conditions.
-/
import Derived.Test.YtbgiabhfgjnggaaDrawMs
import Derived.IntWalk
namespace Go.Proofs.Ytbgiabhfgjnggaa
open Go.RowKit

def AnyBool (u : Value) : Prop := ∃ b : Bool, u = .bool b
/-- A drawn memory that is valid, at the head of the writing of two words. -/
theorem MemDrawn.atM {w w1 w2 W : World} {g cp q : Nat} {ls : List (List Int)} (_h1 : w.grownBy w1 none) (hb : w.heap.size < w1.heap.size) (hg : w1.grownBy w2 (some w.heap.size)) (ho : OwnM w2 w1.heap.size w2.heap.size (.slice (some ⟨g, 0, none⟩) ls.length cp) ls) (hv : mvB ls = true)
    (h3 : w2.grownBy W (some w.heap.size)) (hr : Rdr W w.heap.size q) : ∃ vs, AtM w1 w.heap.size w1.heap.size w2.heap.size g cp vs q W := by
  obtain ⟨k1, k2, _⟩ := mv_shape hv
  have ho3 := ho.turned (lo' := w.heap.size) (hi' := w.heap.size + 1) (Turned.of_row h3 (fun j e => by have := Option.some.inj e; omega)) (.inr (by omega))
  obtain ⟨vs, v1, v2⟩ := ho3
  rw [k1] at v2
  exact ⟨vs, grown_trans hg h3, hr, by omega, Nat.le_refl _, hb, h3.size, ls, ⟨k1, k2⟩, by rw [k1]; exact v2⟩
/-- .. and behind it. -/
theorem AtM.drawn {w w1 W : World} {hi g cp q : Nat} {vs : List Value} (h1 : w.grownBy w1 none) (_hb : w.heap.size < w1.heap.size) (h : AtM w1 w.heap.size w1.heap.size hi g cp vs q W) : ∃ ls, MemDrawn w W (.slice (some ⟨g, 0, none⟩) 12 cp) ls := by
  obtain ⟨ls, o1, o2⟩ := h.own
  obtain ⟨q1, q2, q3, q4, q5, q6, _⟩ := h
  refine ⟨ls, ?_, by rw [o2.1]; omega, fun i hi => by rw [o2.2 i (by rw [o2.1] at hi; exact hi)]; omega, drawn_below h1 q1⟩
  obtain ⟨vs, v1, v2⟩ := o1.mono q6
  refine ⟨vs, v1, ⟨?_, v2.top, fun i hi => (v2.own i hi).mono (by omega), v2.apart, v2.each⟩⟩
  rcases v2.row.2 with h | ⟨g, cap, cur, e, hbb, r⟩
  · exact ⟨v2.row.1, .inl h⟩
  · exact ⟨v2.row.1, .inr ⟨g, cap, cur, e, by omega, r⟩⟩
set_option maxHeartbeats 400000 in
theorem l1Put_c (f : Int) (b : Bool) (w : World) (h0 : 0 ≤ f) (h1 : f ≤ 11) :
    Calls Try.prog 21 #[.int .i64 f, .bool b] w fun e w' => e = .returned (.int .i64 (epV f b)) ∧ w = w' := by
  cases b
  all_goals
    go_enter Try.func21, Try.ntmps21
    go_wp2
    go_ret
    exact ⟨by simp [epV, inR, h0, h1], rfl⟩
structure InvW7 (P0 V : Value) (a : Option Addr) (len cap : Nat) (w2 : World) (br lo hi g cp g2 rc : Nat) (vs : List Value) (q : Nat) (r d m pk : Int) (L : Array Bool) (act : Act) (w : World) : Prop where
  ex : ∃ u35 u36 u37 u38 u39 u40 u41 u42 u43 u44 u45 u46 : Value, act = ⟨#[.slice a len cap, undef, .slice none 0 0, .int .i64 0, .int .i64 0, P0, V, .int .i64 r, .int .i64 d, .int .i64 m, .slice a len cap, P0, P0, V, P0, .int .i64 r, P0, .int .i64 d, P0, .int .i64 pk, .bool true, .bool true, V, .bool true, .bool true, .bool true, .int .i64 r, .bool true, .bool true, .bool true, .int .i64 d, .bool true, .bool true, P0, .int .i64 m, u35, u36, u37, u38, u39, u40, u41, u42, u43, u44, u45, u46, undef, undef, undef, undef, undef, undef, undef, undef, undef, undef, undef, undef, undef, undef, undef, undef, undef], []⟩ ∧ AtM w2 br lo hi g cp vs (q + 3 * ((L.getD 8 false).toNat)) w ∧
    (L.getD 0 false = true → u35 = V) ∧
    (L.getD 1 false = true → u36 = .int .i64 r) ∧
    (L.getD 2 false = true → u37 = .pointer (some ⟨g, r.toNat, none⟩)) ∧
    (L.getD 3 false = true → u38 = .slice (some ⟨g2, 0, none⟩) 4 rc) ∧
    (L.getD 4 false = true → u39 = .int .i64 d) ∧
    (L.getD 5 false = true → u40 = .int .i64 (d / 16)) ∧
    (L.getD 6 false = true → u41 = .int .i64 m) ∧
    (L.getD 7 false = true → u42 = P0) ∧
    (L.getD 8 false = true → VInt 0 2 u43) ∧
    (L.getD 9 false = true → AnyBool u44) ∧
    (L.getD 10 false = true → AnyInt u45) ∧
    (L.getD 11 false = true → u46 = .pointer (some ⟨g2, (d / 16).toNat, none⟩))
structure InvW8 (P0 V : Value) (a : Option Addr) (len cap : Nat) (w2 : World) (br lo hi g cp g2 rc : Nat) (vs : List Value) (q : Nat) (r d m pk : Int) (x35 x36 x37 x38 x39 x40 x41 x42 x43 x44 x45 x46 : Value) (L : Array Bool) (act : Act) (w : World) : Prop where
  ex : ∃ u47 u48 u49 u50 u51 u52 u53 u54 u55 u56 u57 u58 u59 u60 : Value, act = ⟨#[.slice a len cap, undef, .slice none 0 0, .int .i64 0, .int .i64 0, P0, V, .int .i64 r, .int .i64 d, .int .i64 m, .slice a len cap, P0, P0, V, P0, .int .i64 r, P0, .int .i64 d, P0, .int .i64 pk, .bool true, .bool true, V, .bool true, .bool true, .bool true, .int .i64 r, .bool true, .bool true, .bool true, .int .i64 d, .bool true, .bool true, P0, .int .i64 m, x35, x36, x37, x38, x39, x40, x41, x42, x43, x44, x45, x46, u47, u48, u49, u50, u51, u52, u53, u54, u55, u56, u57, u58, u59, u60, undef, undef, undef], []⟩ ∧ AtM w2 br lo hi g cp vs (q + 3 * ((L.getD 8 false).toNat + (L.getD 10 false).toNat)) w ∧
    (L.getD 0 false = true → u47 = V) ∧
    (L.getD 1 false = true → u48 = .int .i64 m) ∧
    (L.getD 2 false = true → u49 = .pointer (some ⟨g, m.toNat, none⟩)) ∧
    (L.getD 3 false = true → u50 = .slice (some ⟨g2, 0, none⟩) 4 rc) ∧
    (L.getD 4 false = true → u51 = .int .i64 d) ∧
    (L.getD 5 false = true → u52 = .int .i64 (d / 4)) ∧
    (L.getD 6 false = true → u53 = .int .i64 (d / 4 % 4)) ∧
    (L.getD 7 false = true → u54 = P0) ∧
    (L.getD 8 false = true → VInt 0 11 u55) ∧
    (L.getD 9 false = true → u56 = P0) ∧
    (L.getD 10 false = true → VInt 0 2 u57) ∧
    (L.getD 11 false = true → AnyBool u58) ∧
    (L.getD 12 false = true → AnyInt u59) ∧
    (L.getD 13 false = true → u60 = .pointer (some ⟨g2, (d / 4 % 4).toNat, none⟩))
set_option maxHeartbeats 4000000 in
theorem DrawWalk_c (a : Option Addr) (len cap : Nat) (w : World) (hB : Bytes w w.heap.size a len) (hc : len ≤ cap) (hm : len ≤ maxLen) :
    Calls Try.prog 7 #[.slice a len cap] w fun e w' => ∃ (v : Value) (ls : List (List Int)) (r d : Int), e = .returned (.tuple #[v, .int .i64 r, .int .i64 d]) ∧ MemDrawn w w' v ls := by
  have HB := Lib.hid hB
  clear hB
  go_enter Try.func7, Try.ntmps7
  go_wp2_with fail
  refine (l6Open_c a len cap w HB.out hc hm).mono ?_
  rintro e w1 ⟨rfl, hg1, hr1⟩
  have hlt : w.heap.size < w1.heap.size := hr1.lt
  go_wp2_with fail
  refine (l91Memory_c w.heap.size 0 _ hr1 (by omega)).mono ?_
  rintro e w2 ⟨v, ls, rfl, ho, hl, hrow, hg2, hr2⟩
  have HF : Hid (∀ w3, w2.grownBy w3 (some w.heap.size) → MemDrawn w w3 v ls) := fun w3 h3 => MemDrawn.of hg1 hlt hg2 ho hl hrow h3
  have HSm := Lib.hid (HF.out w2 (grown_refl _ _)).small
  have HG1 := Lib.hid hg1
  have HG2 := Lib.hid hg2
  have HO := Lib.hid ho
  obtain ⟨x, c, rfl, _, _, _⟩ := ho.mem
  clear ho hl hrow hg1 hg2 hr1
  go_wp2_with fail
  refine (l91Frame_c w.heap.size 500 _ hr2 (by omega)).mono ?_
  rintro e w3 ⟨r, _, _, rfl, hg3, hr3⟩
  go_wp2_with fail
  refine (l91Address_c w.heap.size 502 _ hr3 (by omega)).mono ?_
  rintro e w4 ⟨d, _, _, rfl, hg4, hr4⟩
  go_wp2_with fail
  refine (pick_c w.heap.size 504 3 _ hr4 (by omega) (by omega) (by omega)).mono ?_
  rintro e w5 ⟨pk, pk0, pk1, rfl, hg5, hr5⟩
  have HG5 := Lib.hid (grown_trans (grown_trans hg3 hg4) hg5)
  have HR5 := Lib.hid hr5
  have HM5 : Hid (∃ hi, Mem w5 hi x ls) := by
    obtain ⟨x', c', e', _, _, hm'⟩ := (HF.out w5 HG5.out).1.mem
    simp only [Value.slice.injEq, true_and] at e'
    rw [e'.1]
    exact ⟨_, hm'⟩
  clear hg3 hg4 hg5 hr2 hr3 hr4 hr5
  have FIN : ∀ (W : World) (L : List (List Int)) (V : Value), MemDrawn w W V L → ∃ (v : Value) (ls : List (List Int)) (r' d' : Int), Ending.returned (.tuple #[V, .int .i64 r, .int .i64 d]) = .returned (.tuple #[v, .int .i64 r', .int .i64 d']) ∧ MemDrawn w W v ls := fun W L V h => ⟨V, L, r, d, rfl, h⟩
  have HFIN := Lib.hid FIN
  clear FIN
  obtain ⟨hi0, hm0⟩ := HM5.out
  have HM0 := Lib.hid hm0
  clear hm0 HM5
  by_cases hp : pk = 0
  · subst hp
    go_wp2_with fail
    go_ret3
    exact HFIN.out _ _ _ (HF.out _ HG5.out)
  have hp' : 0 < pk := by omega
  rcases h1 : mvB ls
  · go_wp2_with (first | (go_at_call 18; refine (specMemoryValid_c hi0 x c ls _ HM0.out HSm.out).mono ?_; rintro e w' ⟨rfl, rfl⟩) | (go_at_call 19; refine (l1Frame_c _ _).mono ?_; rintro e w' ⟨rfl, rfl⟩) | (go_at_call 20; refine (l1Address_c _ _).mono ?_; rintro e w' ⟨rfl, rfl⟩))
    go_ret3
    exact HFIN.out _ _ _ (HF.out _ HG5.out)
  rcases h2 : inR r 0 11
  · go_wp2_with (first | (go_at_call 18; refine (specMemoryValid_c hi0 x c ls _ HM0.out HSm.out).mono ?_; rintro e w' ⟨rfl, rfl⟩) | (go_at_call 19; refine (l1Frame_c _ _).mono ?_; rintro e w' ⟨rfl, rfl⟩) | (go_at_call 20; refine (l1Address_c _ _).mono ?_; rintro e w' ⟨rfl, rfl⟩))
    go_ret3
    exact HFIN.out _ _ _ (HF.out _ HG5.out)
  rcases h3 : inR d 0 63
  · go_wp2_with (first | (go_at_call 18; refine (specMemoryValid_c hi0 x c ls _ HM0.out HSm.out).mono ?_; rintro e w' ⟨rfl, rfl⟩) | (go_at_call 19; refine (l1Frame_c _ _).mono ?_; rintro e w' ⟨rfl, rfl⟩) | (go_at_call 20; refine (l1Address_c _ _).mono ?_; rintro e w' ⟨rfl, rfl⟩))
    go_ret3
    exact HFIN.out _ _ _ (HF.out _ HG5.out)
  · have r0 := (inR_iff.1 h2).1
    have r1 := (inR_iff.1 h2).2
    have d0 := (inR_iff.1 h3).1
    have d1 := (inR_iff.1 h3).2
    go_wp2_with (first | (go_at_call 18; refine (specMemoryValid_c hi0 x c ls _ HM0.out HSm.out).mono ?_; rintro e w' ⟨rfl, rfl⟩) | (go_at_call 19; refine (l1Frame_c _ _).mono ?_; rintro e w' ⟨rfl, rfl⟩) | (go_at_call 20; refine (l1Address_c _ _).mono ?_; rintro e w' ⟨rfl, rfl⟩))
    refine (pick_c w.heap.size 505 12 _ HR5.out (by omega) (by omega) (by omega)).mono ?_
    rintro e w6 ⟨m, m0, m1, rfl, hg6, hr6⟩
    have e12 : ls.length = 12 := (mv_shape h1).1
    obtain ⟨g, cp, hx⟩ : ∃ g cp, (Value.slice x ls.length c) = .slice (some ⟨g, 0, none⟩) ls.length cp := by
      rcases HO.out.cases with ⟨_, e⟩ | ⟨g, cp, e, _⟩
      · rw [e] at e12; cases e12
      · exact ⟨g, cp, e⟩
    simp only [Value.slice.injEq, true_and] at hx
    obtain ⟨rfl, rfl⟩ := hx
    have hA : ∃ vs, AtM w1 w.heap.size w1.heap.size w2.heap.size g c vs 506 w6 := MemDrawn.atM HG1.out hlt HG2.out HO.out h1 (grown_trans HG5.out hg6) hr6
    obtain ⟨vs, hA⟩ := hA
    have HA := Lib.hid hA
    rw [e12]
    clear hA hg6 hr6 h1 h2 h3 HF HO HSm HM0 HG5 HR5 e12 hp
    generalize w2.heap.size = hi at *
    obtain ⟨g2, rc, hrow, -, -, -, -, -, -⟩ := HA.out.row (i := r.toNat) (by omega)
    obtain ⟨g3, rc3, hrow3, -, -, -, -, -, -⟩ := HA.out.row (i := m.toNat) (by omega)
    have HRow := Lib.hid hrow
    have HRow3 := Lib.hid hrow3
    clear hrow hrow3
    go_wp2_with fail
    refine wp_region_inv (by kernel_rfl) (InvW7 (.pointer (some ⟨w.heap.size, 0, none⟩)) (.slice (some ⟨g, 0, none⟩) 12 c) a len cap w1 w.heap.size w1.heap.size hi g c g2 rc vs 506 r d m pk) (by kernel_rfl) ?_ ?_ ?_
    · exact ⟨_, _, _, _, _, _, _, _, _, _, _, _, rfl, HA.out.drew.more (by omega), by simp, by simp, by simp, by simp, by simp, by simp, by simp, by simp, by simp, by simp, by simp, by simp⟩
    · have hrow := HRow.out
      have E16 : IntKind.i64.wrap (d.tdiv 16) = d / 16 := by rw [Int.tdiv_eq_ediv_of_nonneg d0]; exact IntWalk.i64_in _ (by omega)
      rintro L act W i hs ⟨u35, u36, u37, u38, u39, u40, u41, u42, u43, u44, u45, u46, rfl, hG, p0, p1, p2, p3, p4, p5, p6, p7, p8, p9, p10, p11⟩ hi hl hd
      have hi' : i < 13 := hi
      have hc' : i = 0 ∨ i = 1 ∨ i = 2 ∨ i = 3 ∨ i = 4 ∨ i = 5 ∨ i = 6 ∨ i = 7 ∨ i = 8 ∨ i = 9 ∨ i = 10 ∨ i = 11 ∨ i = 12 := by omega
      rcases hc' with rfl | rfl | rfl | rfl | rfl | rfl | rfl | rfl | rfl | rfl | rfl | rfl | rfl
      · have hLf : L.getD 0 false = false := getD_false hl (by rw [hs]; decide)
        have hsz : 0 < L.size := by rw [hs]; decide
        have OL : ∀ j, j ≠ 0 → (L.setIfInBounds 0 true).getD j false = true → L.getD j false = true := fun j hj h => by rw [getD_setB _ _ _ _ hsz, if_neg hj] at h; exact h
        have hN : ((L.setIfInBounds 0 true).getD 8 false).toNat = (L.getD 8 false).toNat := by
          rw [getD_setB _ _ _ _ hsz, if_neg (by decide)]
        have ST0 := p0
        have ST1 := p1
        have ST2 := p2
        have ST3 := p3
        have ST4 := p4
        have ST5 := p5
        have ST6 := p6
        have ST7 := p7
        have ST8 := p8
        have ST9 := p9
        have ST10 := p10
        have ST11 := p11
        refine wpOp_run rfl rfl fun K hK => ?_
        clear hd hs hi hl
        go_simp
        refine hK _ _ ⟨_, _, _, _, _, _, _, _, _, _, _, _, rfl, by rw [hN]; exact hG, fun _ => rfl, fun h => ST1 (OL 1 (by decide) h), fun h => ST2 (OL 2 (by decide) h), fun h => ST3 (OL 3 (by decide) h), fun h => ST4 (OL 4 (by decide) h), fun h => ST5 (OL 5 (by decide) h), fun h => ST6 (OL 6 (by decide) h), fun h => ST7 (OL 7 (by decide) h), fun h => ST8 (OL 8 (by decide) h), fun h => ST9 (OL 9 (by decide) h), fun h => ST10 (OL 10 (by decide) h), fun h => ST11 (OL 11 (by decide) h)⟩
      · have hLf : L.getD 1 false = false := getD_false hl (by rw [hs]; decide)
        have hsz : 1 < L.size := by rw [hs]; decide
        have OL : ∀ j, j ≠ 1 → (L.setIfInBounds 1 true).getD j false = true → L.getD j false = true := fun j hj h => by rw [getD_setB _ _ _ _ hsz, if_neg hj] at h; exact h
        have hN : ((L.setIfInBounds 1 true).getD 8 false).toNat = (L.getD 8 false).toNat := by
          rw [getD_setB _ _ _ _ hsz, if_neg (by decide)]
        have ST0 := p0
        have ST1 := p1
        have ST2 := p2
        have ST3 := p3
        have ST4 := p4
        have ST5 := p5
        have ST6 := p6
        have ST7 := p7
        have ST8 := p8
        have ST9 := p9
        have ST10 := p10
        have ST11 := p11
        refine wpOp_run rfl rfl fun K hK => ?_
        clear hd hs hi hl
        go_simp
        refine hK _ _ ⟨_, _, _, _, _, _, _, _, _, _, _, _, rfl, by rw [hN]; exact hG, fun h => ST0 (OL 0 (by decide) h), fun _ => rfl, fun h => ST2 (OL 2 (by decide) h), fun h => ST3 (OL 3 (by decide) h), fun h => ST4 (OL 4 (by decide) h), fun h => ST5 (OL 5 (by decide) h), fun h => ST6 (OL 6 (by decide) h), fun h => ST7 (OL 7 (by decide) h), fun h => ST8 (OL 8 (by decide) h), fun h => ST9 (OL 9 (by decide) h), fun h => ST10 (OL 10 (by decide) h), fun h => ST11 (OL 11 (by decide) h)⟩
      · have hLf : L.getD 2 false = false := getD_false hl (by rw [hs]; decide)
        have hsz : 2 < L.size := by rw [hs]; decide
        have OL : ∀ j, j ≠ 2 → (L.setIfInBounds 2 true).getD j false = true → L.getD j false = true := fun j hj h => by rw [getD_setB _ _ _ _ hsz, if_neg hj] at h; exact h
        have hN : ((L.setIfInBounds 2 true).getD 8 false).toNat = (L.getD 8 false).toNat := by
          rw [getD_setB _ _ _ _ hsz, if_neg (by decide)]
        have d0 := hd _ rfl ⟨0, .data⟩ (by simp) rfl
        have d1 := hd _ rfl ⟨1, .data⟩ (by simp) rfl
        obtain rfl := p0 d0
        obtain rfl := p1 d1
        have r12 : r < 12 := by omega
        have ST0 := p0
        have ST1 := p1
        have ST2 := p2
        have ST3 := p3
        have ST4 := p4
        have ST5 := p5
        have ST6 := p6
        have ST7 := p7
        have ST8 := p8
        have ST9 := p9
        have ST10 := p10
        have ST11 := p11
        refine wpOp_run rfl rfl fun K hK => ?_
        clear hd hs hi hl
        go_simp
        refine hK _ _ ⟨_, _, _, _, _, _, _, _, _, _, _, _, rfl, by rw [hN]; exact hG, fun h => ST0 (OL 0 (by decide) h), fun h => ST1 (OL 1 (by decide) h), fun _ => rfl, fun h => ST3 (OL 3 (by decide) h), fun h => ST4 (OL 4 (by decide) h), fun h => ST5 (OL 5 (by decide) h), fun h => ST6 (OL 6 (by decide) h), fun h => ST7 (OL 7 (by decide) h), fun h => ST8 (OL 8 (by decide) h), fun h => ST9 (OL 9 (by decide) h), fun h => ST10 (OL 10 (by decide) h), fun h => ST11 (OL 11 (by decide) h)⟩
      · have hLf : L.getD 3 false = false := getD_false hl (by rw [hs]; decide)
        have hsz : 3 < L.size := by rw [hs]; decide
        have OL : ∀ j, j ≠ 3 → (L.setIfInBounds 3 true).getD j false = true → L.getD j false = true := fun j hj h => by rw [getD_setB _ _ _ _ hsz, if_neg hj] at h; exact h
        have hN : ((L.setIfInBounds 3 true).getD 8 false).toNat = (L.getD 8 false).toNat := by
          rw [getD_setB _ _ _ _ hsz, if_neg (by decide)]
        have d2 := hd _ rfl ⟨2, .data⟩ (by simp) rfl
        obtain rfl := p2 d2
        obtain ⟨g3, rc3, e3, c2, -, -, -, -, -⟩ := hG.row (i := r.toNat) (by omega)
        rw [hrow] at e3
        simp only [Value.slice.injEq, Option.some.injEq, Addr.mk.injEq, and_true, true_and] at e3
        obtain ⟨rfl, rfl⟩ := e3
        have ST0 := p0
        have ST1 := p1
        have ST2 := p2
        have ST3 := p3
        have ST4 := p4
        have ST5 := p5
        have ST6 := p6
        have ST7 := p7
        have ST8 := p8
        have ST9 := p9
        have ST10 := p10
        have ST11 := p11
        refine wpOp_run rfl rfl fun K hK => ?_
        clear hd hs hi hl
        go_simp
        refine hK _ _ ⟨_, _, _, _, _, _, _, _, _, _, _, _, rfl, by rw [hN]; exact hG, fun h => ST0 (OL 0 (by decide) h), fun h => ST1 (OL 1 (by decide) h), fun h => ST2 (OL 2 (by decide) h), fun _ => rfl, fun h => ST4 (OL 4 (by decide) h), fun h => ST5 (OL 5 (by decide) h), fun h => ST6 (OL 6 (by decide) h), fun h => ST7 (OL 7 (by decide) h), fun h => ST8 (OL 8 (by decide) h), fun h => ST9 (OL 9 (by decide) h), fun h => ST10 (OL 10 (by decide) h), fun h => ST11 (OL 11 (by decide) h)⟩
      · have hLf : L.getD 4 false = false := getD_false hl (by rw [hs]; decide)
        have hsz : 4 < L.size := by rw [hs]; decide
        have OL : ∀ j, j ≠ 4 → (L.setIfInBounds 4 true).getD j false = true → L.getD j false = true := fun j hj h => by rw [getD_setB _ _ _ _ hsz, if_neg hj] at h; exact h
        have hN : ((L.setIfInBounds 4 true).getD 8 false).toNat = (L.getD 8 false).toNat := by
          rw [getD_setB _ _ _ _ hsz, if_neg (by decide)]
        have ST0 := p0
        have ST1 := p1
        have ST2 := p2
        have ST3 := p3
        have ST4 := p4
        have ST5 := p5
        have ST6 := p6
        have ST7 := p7
        have ST8 := p8
        have ST9 := p9
        have ST10 := p10
        have ST11 := p11
        refine wpOp_run rfl rfl fun K hK => ?_
        clear hd hs hi hl
        go_simp
        refine hK _ _ ⟨_, _, _, _, _, _, _, _, _, _, _, _, rfl, by rw [hN]; exact hG, fun h => ST0 (OL 0 (by decide) h), fun h => ST1 (OL 1 (by decide) h), fun h => ST2 (OL 2 (by decide) h), fun h => ST3 (OL 3 (by decide) h), fun _ => rfl, fun h => ST5 (OL 5 (by decide) h), fun h => ST6 (OL 6 (by decide) h), fun h => ST7 (OL 7 (by decide) h), fun h => ST8 (OL 8 (by decide) h), fun h => ST9 (OL 9 (by decide) h), fun h => ST10 (OL 10 (by decide) h), fun h => ST11 (OL 11 (by decide) h)⟩
      · have hLf : L.getD 5 false = false := getD_false hl (by rw [hs]; decide)
        have hsz : 5 < L.size := by rw [hs]; decide
        have OL : ∀ j, j ≠ 5 → (L.setIfInBounds 5 true).getD j false = true → L.getD j false = true := fun j hj h => by rw [getD_setB _ _ _ _ hsz, if_neg hj] at h; exact h
        have hN : ((L.setIfInBounds 5 true).getD 8 false).toNat = (L.getD 8 false).toNat := by
          rw [getD_setB _ _ _ _ hsz, if_neg (by decide)]
        have d4 := hd _ rfl ⟨4, .data⟩ (by simp) rfl
        obtain rfl := p4 d4
        have ST0 := p0
        have ST1 := p1
        have ST2 := p2
        have ST3 := p3
        have ST4 := p4
        have ST5 := p5
        have ST6 := p6
        have ST7 := p7
        have ST8 := p8
        have ST9 := p9
        have ST10 := p10
        have ST11 := p11
        refine wpOp_run rfl rfl fun K hK => ?_
        clear hd hs hi hl
        go_simp
        refine hK _ _ ⟨_, _, _, _, _, _, _, _, _, _, _, _, rfl, by rw [hN]; exact hG, fun h => ST0 (OL 0 (by decide) h), fun h => ST1 (OL 1 (by decide) h), fun h => ST2 (OL 2 (by decide) h), fun h => ST3 (OL 3 (by decide) h), fun h => ST4 (OL 4 (by decide) h), fun _ => by first | rfl | exact congrArg (Value.int .i64) E16, fun h => ST6 (OL 6 (by decide) h), fun h => ST7 (OL 7 (by decide) h), fun h => ST8 (OL 8 (by decide) h), fun h => ST9 (OL 9 (by decide) h), fun h => ST10 (OL 10 (by decide) h), fun h => ST11 (OL 11 (by decide) h)⟩
      · have hLf : L.getD 6 false = false := getD_false hl (by rw [hs]; decide)
        have hsz : 6 < L.size := by rw [hs]; decide
        have OL : ∀ j, j ≠ 6 → (L.setIfInBounds 6 true).getD j false = true → L.getD j false = true := fun j hj h => by rw [getD_setB _ _ _ _ hsz, if_neg hj] at h; exact h
        have hN : ((L.setIfInBounds 6 true).getD 8 false).toNat = (L.getD 8 false).toNat := by
          rw [getD_setB _ _ _ _ hsz, if_neg (by decide)]
        have ST0 := p0
        have ST1 := p1
        have ST2 := p2
        have ST3 := p3
        have ST4 := p4
        have ST5 := p5
        have ST6 := p6
        have ST7 := p7
        have ST8 := p8
        have ST9 := p9
        have ST10 := p10
        have ST11 := p11
        refine wpOp_run rfl rfl fun K hK => ?_
        clear hd hs hi hl
        go_simp
        refine hK _ _ ⟨_, _, _, _, _, _, _, _, _, _, _, _, rfl, by rw [hN]; exact hG, fun h => ST0 (OL 0 (by decide) h), fun h => ST1 (OL 1 (by decide) h), fun h => ST2 (OL 2 (by decide) h), fun h => ST3 (OL 3 (by decide) h), fun h => ST4 (OL 4 (by decide) h), fun h => ST5 (OL 5 (by decide) h), fun _ => rfl, fun h => ST7 (OL 7 (by decide) h), fun h => ST8 (OL 8 (by decide) h), fun h => ST9 (OL 9 (by decide) h), fun h => ST10 (OL 10 (by decide) h), fun h => ST11 (OL 11 (by decide) h)⟩
      · have hLf : L.getD 7 false = false := getD_false hl (by rw [hs]; decide)
        have hsz : 7 < L.size := by rw [hs]; decide
        have OL : ∀ j, j ≠ 7 → (L.setIfInBounds 7 true).getD j false = true → L.getD j false = true := fun j hj h => by rw [getD_setB _ _ _ _ hsz, if_neg hj] at h; exact h
        have hN : ((L.setIfInBounds 7 true).getD 8 false).toNat = (L.getD 8 false).toNat := by
          rw [getD_setB _ _ _ _ hsz, if_neg (by decide)]
        have ST0 := p0
        have ST1 := p1
        have ST2 := p2
        have ST3 := p3
        have ST4 := p4
        have ST5 := p5
        have ST6 := p6
        have ST7 := p7
        have ST8 := p8
        have ST9 := p9
        have ST10 := p10
        have ST11 := p11
        refine wpOp_run rfl rfl fun K hK => ?_
        clear hd hs hi hl
        go_simp
        refine hK _ _ ⟨_, _, _, _, _, _, _, _, _, _, _, _, rfl, by rw [hN]; exact hG, fun h => ST0 (OL 0 (by decide) h), fun h => ST1 (OL 1 (by decide) h), fun h => ST2 (OL 2 (by decide) h), fun h => ST3 (OL 3 (by decide) h), fun h => ST4 (OL 4 (by decide) h), fun h => ST5 (OL 5 (by decide) h), fun h => ST6 (OL 6 (by decide) h), fun _ => rfl, fun h => ST8 (OL 8 (by decide) h), fun h => ST9 (OL 9 (by decide) h), fun h => ST10 (OL 10 (by decide) h), fun h => ST11 (OL 11 (by decide) h)⟩
      · have hLf : L.getD 8 false = false := getD_false hl (by rw [hs]; decide)
        have hsz : 8 < L.size := by rw [hs]; decide
        have OL : ∀ j, j ≠ 8 → (L.setIfInBounds 8 true).getD j false = true → L.getD j false = true := fun j hj h => by rw [getD_setB _ _ _ _ hsz, if_neg hj] at h; exact h
        have hN : ((L.setIfInBounds 8 true).getD 8 false).toNat = (L.getD 8 false).toNat + 1 := by
          rw [getD_setB _ _ _ _ hsz, if_pos rfl, hLf]; simp; try omega
        have d7 := hd _ rfl ⟨7, .data⟩ (by simp) rfl
        obtain rfl := p7 d7
        refine wpOp_run rfl rfl fun K hK => ?_
        clear hd hs hi hl
        go_simp
        refine (pick_c _ _ 3 _ hG.2.1 (by have := Bool.toNat_le (c := L.getD 8 false); omega) (by omega) (by omega)).mono ?_
        rintro e W2 ⟨k3, k30, k31, rfl, hgk, hrk⟩
        have ST0 := p0
        have ST1 := p1
        have ST2 := p2
        have ST3 := p3
        have ST4 := p4
        have ST5 := p5
        have ST6 := p6
        have ST7 := p7
        have ST8 := p8
        have ST9 := p9
        have ST10 := p10
        have ST11 := p11
        refine hK _ _ ⟨_, _, _, _, _, _, _, _, _, _, _, _, rfl, by rw [hN]; exact (hG.call hgk hrk).more (by omega), fun h => ST0 (OL 0 (by decide) h), fun h => ST1 (OL 1 (by decide) h), fun h => ST2 (OL 2 (by decide) h), fun h => ST3 (OL 3 (by decide) h), fun h => ST4 (OL 4 (by decide) h), fun h => ST5 (OL 5 (by decide) h), fun h => ST6 (OL 6 (by decide) h), fun h => ST7 (OL 7 (by decide) h), fun _ => ⟨k3, rfl, k30, by omega⟩, fun h => ST9 (OL 9 (by decide) h), fun h => ST10 (OL 10 (by decide) h), fun h => ST11 (OL 11 (by decide) h)⟩
      · have hLf : L.getD 9 false = false := getD_false hl (by rw [hs]; decide)
        have hsz : 9 < L.size := by rw [hs]; decide
        have OL : ∀ j, j ≠ 9 → (L.setIfInBounds 9 true).getD j false = true → L.getD j false = true := fun j hj h => by rw [getD_setB _ _ _ _ hsz, if_neg hj] at h; exact h
        have hN : ((L.setIfInBounds 9 true).getD 8 false).toNat = (L.getD 8 false).toNat := by
          rw [getD_setB _ _ _ _ hsz, if_neg (by decide)]
        have d8 := hd _ rfl ⟨8, .data⟩ (by simp) rfl
        obtain ⟨k3, rfl, k30, k31⟩ := p8 d8
        have ST0 := p0
        have ST1 := p1
        have ST2 := p2
        have ST3 := p3
        have ST4 := p4
        have ST5 := p5
        have ST6 := p6
        have ST7 := p7
        have ST8 := p8
        have ST9 := p9
        have ST10 := p10
        have ST11 := p11
        refine wpOp_run rfl rfl fun K hK => ?_
        clear hd hs hi hl
        go_simp
        refine hK _ _ ⟨_, _, _, _, _, _, _, _, _, _, _, _, rfl, by rw [hN]; exact hG, fun h => ST0 (OL 0 (by decide) h), fun h => ST1 (OL 1 (by decide) h), fun h => ST2 (OL 2 (by decide) h), fun h => ST3 (OL 3 (by decide) h), fun h => ST4 (OL 4 (by decide) h), fun h => ST5 (OL 5 (by decide) h), fun h => ST6 (OL 6 (by decide) h), fun h => ST7 (OL 7 (by decide) h), fun h => ST8 (OL 8 (by decide) h), fun _ => ⟨_, rfl⟩, fun h => ST10 (OL 10 (by decide) h), fun h => ST11 (OL 11 (by decide) h)⟩
      · have hLf : L.getD 10 false = false := getD_false hl (by rw [hs]; decide)
        have hsz : 10 < L.size := by rw [hs]; decide
        have OL : ∀ j, j ≠ 10 → (L.setIfInBounds 10 true).getD j false = true → L.getD j false = true := fun j hj h => by rw [getD_setB _ _ _ _ hsz, if_neg hj] at h; exact h
        have hN : ((L.setIfInBounds 10 true).getD 8 false).toNat = (L.getD 8 false).toNat := by
          rw [getD_setB _ _ _ _ hsz, if_neg (by decide)]
        have d6 := hd _ rfl ⟨6, .data⟩ (by simp) rfl
        have d9 := hd _ rfl ⟨9, .data⟩ (by simp) rfl
        obtain rfl := p6 d6
        obtain ⟨bb, rfl⟩ := p9 d9
        refine wpOp_run rfl rfl fun K hK => ?_
        clear hd hs hi hl
        go_simp
        refine (l1Put_c _ _ _ (by omega) (by omega)).mono ?_
        rintro e W2 ⟨rfl, rfl⟩
        have ST0 := p0
        have ST1 := p1
        have ST2 := p2
        have ST3 := p3
        have ST4 := p4
        have ST5 := p5
        have ST6 := p6
        have ST7 := p7
        have ST8 := p8
        have ST9 := p9
        have ST10 := p10
        have ST11 := p11
        refine hK _ _ ⟨_, _, _, _, _, _, _, _, _, _, _, _, rfl, by rw [hN]; exact hG, fun h => ST0 (OL 0 (by decide) h), fun h => ST1 (OL 1 (by decide) h), fun h => ST2 (OL 2 (by decide) h), fun h => ST3 (OL 3 (by decide) h), fun h => ST4 (OL 4 (by decide) h), fun h => ST5 (OL 5 (by decide) h), fun h => ST6 (OL 6 (by decide) h), fun h => ST7 (OL 7 (by decide) h), fun h => ST8 (OL 8 (by decide) h), fun h => ST9 (OL 9 (by decide) h), fun _ => ⟨_, rfl⟩, fun h => ST11 (OL 11 (by decide) h)⟩
      · have hLf : L.getD 11 false = false := getD_false hl (by rw [hs]; decide)
        have hsz : 11 < L.size := by rw [hs]; decide
        have OL : ∀ j, j ≠ 11 → (L.setIfInBounds 11 true).getD j false = true → L.getD j false = true := fun j hj h => by rw [getD_setB _ _ _ _ hsz, if_neg hj] at h; exact h
        have hN : ((L.setIfInBounds 11 true).getD 8 false).toNat = (L.getD 8 false).toNat := by
          rw [getD_setB _ _ _ _ hsz, if_neg (by decide)]
        have d3 := hd _ rfl ⟨3, .data⟩ (by simp) rfl
        have d5 := hd _ rfl ⟨5, .data⟩ (by simp) rfl
        obtain rfl := p3 d3
        obtain rfl := p5 d5
        have d4 : d / 16 < 4 := by omega
        have d40 : 0 ≤ d / 16 := by omega
        have ST0 := p0
        have ST1 := p1
        have ST2 := p2
        have ST3 := p3
        have ST4 := p4
        have ST5 := p5
        have ST6 := p6
        have ST7 := p7
        have ST8 := p8
        have ST9 := p9
        have ST10 := p10
        have ST11 := p11
        refine wpOp_run rfl rfl fun K hK => ?_
        clear hd hs hi hl
        go_simp
        refine hK _ _ ⟨_, _, _, _, _, _, _, _, _, _, _, _, rfl, by rw [hN]; exact hG, fun h => ST0 (OL 0 (by decide) h), fun h => ST1 (OL 1 (by decide) h), fun h => ST2 (OL 2 (by decide) h), fun h => ST3 (OL 3 (by decide) h), fun h => ST4 (OL 4 (by decide) h), fun h => ST5 (OL 5 (by decide) h), fun h => ST6 (OL 6 (by decide) h), fun h => ST7 (OL 7 (by decide) h), fun h => ST8 (OL 8 (by decide) h), fun h => ST9 (OL 9 (by decide) h), fun h => ST10 (OL 10 (by decide) h), fun _ => rfl⟩
      · have hLf : L.getD 12 false = false := getD_false hl (by rw [hs]; decide)
        have hsz : 12 < L.size := by rw [hs]; decide
        have OL : ∀ j, j ≠ 12 → (L.setIfInBounds 12 true).getD j false = true → L.getD j false = true := fun j hj h => by rw [getD_setB _ _ _ _ hsz, if_neg hj] at h; exact h
        have hN : ((L.setIfInBounds 12 true).getD 8 false).toNat = (L.getD 8 false).toNat := by
          rw [getD_setB _ _ _ _ hsz, if_neg (by decide)]
        have d10 := hd _ rfl ⟨10, .data⟩ (by simp) rfl
        have d11 := hd _ rfl ⟨11, .data⟩ (by simp) rfl
        obtain ⟨x, rfl⟩ := p10 d10
        obtain rfl := p11 d11
        obtain ⟨g3, rc3, e3, -, -, cc, zz, -, -⟩ := hG.row (i := r.toNat) (by omega)
        rw [hrow] at e3
        simp only [Value.slice.injEq, Option.some.injEq, Addr.mk.injEq, and_true, true_and] at e3
        obtain ⟨rfl, rfl⟩ := e3
        obtain ⟨y, hy⟩ := cc (d / 16).toNat (by omega)
        have hf := zz (d / 16).toNat
        clear cc zz
        have ST0 := p0
        have ST1 := p1
        have ST2 := p2
        have ST3 := p3
        have ST4 := p4
        have ST5 := p5
        have ST6 := p6
        have ST7 := p7
        have ST8 := p8
        have ST9 := p9
        have ST10 := p10
        have ST11 := p11
        refine wpOp_run rfl rfl fun K hK => ?_
        clear hd hs hi hl
        go_simp
        refine hK _ _ ⟨_, _, _, _, _, _, _, _, _, _, _, _, rfl, by rw [hN]; exact hG.put (i := r.toNat) (by omega) (by omega) hrow _, fun h => ST0 (OL 0 (by decide) h), fun h => ST1 (OL 1 (by decide) h), fun h => ST2 (OL 2 (by decide) h), fun h => ST3 (OL 3 (by decide) h), fun h => ST4 (OL 4 (by decide) h), fun h => ST5 (OL 5 (by decide) h), fun h => ST6 (OL 6 (by decide) h), fun h => ST7 (OL 7 (by decide) h), fun h => ST8 (OL 8 (by decide) h), fun h => ST9 (OL 9 (by decide) h), fun h => ST10 (OL 10 (by decide) h), fun h => ST11 (OL 11 (by decide) h)⟩
    · rintro L act W ⟨u35, u36, u37, u38, u39, u40, u41, u42, u43, u44, u45, u46, rfl, hG, p0, p1, p2, p3, p4, p5, p6, p7, p8, p9, p10, p11⟩ _
      have HA2 := Lib.hid (hG.more (q' := 510) (by have := Bool.toNat_le (c := L.getD 8 false); omega))
      clear hG p0 p1 p2 p3 p4 p5 p6 p7 p8 p9 p10 p11
      go_wp2_with fail
      refine wp_region_inv (by kernel_rfl) (InvW8 (.pointer (some ⟨w.heap.size, 0, none⟩)) (.slice (some ⟨g, 0, none⟩) 12 c) a len cap w1 w.heap.size w1.heap.size hi g c g3 rc3 vs 510 r d m pk u35 u36 u37 u38 u39 u40 u41 u42 u43 u44 u45 u46) (by kernel_rfl) ?_ ?_ ?_
      · exact ⟨_, _, _, _, _, _, _, _, _, _, _, _, _, _, rfl, HA2.out.drew.more (by omega), by simp, by simp, by simp, by simp, by simp, by simp, by simp, by simp, by simp, by simp, by simp, by simp, by simp, by simp⟩
      · have hrow := HRow3.out
        have E4 : IntKind.i64.wrap (d.tdiv 4) = d / 4 := by rw [Int.tdiv_eq_ediv_of_nonneg d0]; exact IntWalk.i64_in _ (by omega)
        have E44 : (d / 4).tmod 4 = d / 4 % 4 := Int.tmod_eq_emod_of_nonneg (by omega)
        rintro L act W i hs ⟨u47, u48, u49, u50, u51, u52, u53, u54, u55, u56, u57, u58, u59, u60, rfl, hG, p0, p1, p2, p3, p4, p5, p6, p7, p8, p9, p10, p11, p12, p13⟩ hi hl hd
        have hi' : i < 15 := hi
        have hc' : i = 0 ∨ i = 1 ∨ i = 2 ∨ i = 3 ∨ i = 4 ∨ i = 5 ∨ i = 6 ∨ i = 7 ∨ i = 8 ∨ i = 9 ∨ i = 10 ∨ i = 11 ∨ i = 12 ∨ i = 13 ∨ i = 14 := by omega
        rcases hc' with rfl | rfl | rfl | rfl | rfl | rfl | rfl | rfl | rfl | rfl | rfl | rfl | rfl | rfl | rfl
        · have hLf : L.getD 0 false = false := getD_false hl (by rw [hs]; decide)
          have hsz : 0 < L.size := by rw [hs]; decide
          have OL : ∀ j, j ≠ 0 → (L.setIfInBounds 0 true).getD j false = true → L.getD j false = true := fun j hj h => by rw [getD_setB _ _ _ _ hsz, if_neg hj] at h; exact h
          have hN : ((L.setIfInBounds 0 true).getD 8 false).toNat + ((L.setIfInBounds 0 true).getD 10 false).toNat = (L.getD 8 false).toNat + (L.getD 10 false).toNat := by
            rw [getD_setB _ _ _ _ hsz, getD_setB _ _ _ _ hsz, if_neg (by decide), if_neg (by decide)]
          have ST0 := p0
          have ST1 := p1
          have ST2 := p2
          have ST3 := p3
          have ST4 := p4
          have ST5 := p5
          have ST6 := p6
          have ST7 := p7
          have ST8 := p8
          have ST9 := p9
          have ST10 := p10
          have ST11 := p11
          have ST12 := p12
          have ST13 := p13
          refine wpOp_run rfl rfl fun K hK => ?_
          clear hd hs hi hl
          go_simp
          refine hK _ _ ⟨_, _, _, _, _, _, _, _, _, _, _, _, _, _, rfl, by rw [hN]; exact hG, fun _ => rfl, fun h => ST1 (OL 1 (by decide) h), fun h => ST2 (OL 2 (by decide) h), fun h => ST3 (OL 3 (by decide) h), fun h => ST4 (OL 4 (by decide) h), fun h => ST5 (OL 5 (by decide) h), fun h => ST6 (OL 6 (by decide) h), fun h => ST7 (OL 7 (by decide) h), fun h => ST8 (OL 8 (by decide) h), fun h => ST9 (OL 9 (by decide) h), fun h => ST10 (OL 10 (by decide) h), fun h => ST11 (OL 11 (by decide) h), fun h => ST12 (OL 12 (by decide) h), fun h => ST13 (OL 13 (by decide) h)⟩
        · have hLf : L.getD 1 false = false := getD_false hl (by rw [hs]; decide)
          have hsz : 1 < L.size := by rw [hs]; decide
          have OL : ∀ j, j ≠ 1 → (L.setIfInBounds 1 true).getD j false = true → L.getD j false = true := fun j hj h => by rw [getD_setB _ _ _ _ hsz, if_neg hj] at h; exact h
          have hN : ((L.setIfInBounds 1 true).getD 8 false).toNat + ((L.setIfInBounds 1 true).getD 10 false).toNat = (L.getD 8 false).toNat + (L.getD 10 false).toNat := by
            rw [getD_setB _ _ _ _ hsz, getD_setB _ _ _ _ hsz, if_neg (by decide), if_neg (by decide)]
          have ST0 := p0
          have ST1 := p1
          have ST2 := p2
          have ST3 := p3
          have ST4 := p4
          have ST5 := p5
          have ST6 := p6
          have ST7 := p7
          have ST8 := p8
          have ST9 := p9
          have ST10 := p10
          have ST11 := p11
          have ST12 := p12
          have ST13 := p13
          refine wpOp_run rfl rfl fun K hK => ?_
          clear hd hs hi hl
          go_simp
          refine hK _ _ ⟨_, _, _, _, _, _, _, _, _, _, _, _, _, _, rfl, by rw [hN]; exact hG, fun h => ST0 (OL 0 (by decide) h), fun _ => rfl, fun h => ST2 (OL 2 (by decide) h), fun h => ST3 (OL 3 (by decide) h), fun h => ST4 (OL 4 (by decide) h), fun h => ST5 (OL 5 (by decide) h), fun h => ST6 (OL 6 (by decide) h), fun h => ST7 (OL 7 (by decide) h), fun h => ST8 (OL 8 (by decide) h), fun h => ST9 (OL 9 (by decide) h), fun h => ST10 (OL 10 (by decide) h), fun h => ST11 (OL 11 (by decide) h), fun h => ST12 (OL 12 (by decide) h), fun h => ST13 (OL 13 (by decide) h)⟩
        · have hLf : L.getD 2 false = false := getD_false hl (by rw [hs]; decide)
          have hsz : 2 < L.size := by rw [hs]; decide
          have OL : ∀ j, j ≠ 2 → (L.setIfInBounds 2 true).getD j false = true → L.getD j false = true := fun j hj h => by rw [getD_setB _ _ _ _ hsz, if_neg hj] at h; exact h
          have hN : ((L.setIfInBounds 2 true).getD 8 false).toNat + ((L.setIfInBounds 2 true).getD 10 false).toNat = (L.getD 8 false).toNat + (L.getD 10 false).toNat := by
            rw [getD_setB _ _ _ _ hsz, getD_setB _ _ _ _ hsz, if_neg (by decide), if_neg (by decide)]
          have d0 := hd _ rfl ⟨0, .data⟩ (by simp) rfl
          have d1 := hd _ rfl ⟨1, .data⟩ (by simp) rfl
          obtain rfl := p0 d0
          obtain rfl := p1 d1
          have ST0 := p0
          have ST1 := p1
          have ST2 := p2
          have ST3 := p3
          have ST4 := p4
          have ST5 := p5
          have ST6 := p6
          have ST7 := p7
          have ST8 := p8
          have ST9 := p9
          have ST10 := p10
          have ST11 := p11
          have ST12 := p12
          have ST13 := p13
          refine wpOp_run rfl rfl fun K hK => ?_
          clear hd hs hi hl
          go_simp
          refine hK _ _ ⟨_, _, _, _, _, _, _, _, _, _, _, _, _, _, rfl, by rw [hN]; exact hG, fun h => ST0 (OL 0 (by decide) h), fun h => ST1 (OL 1 (by decide) h), fun _ => rfl, fun h => ST3 (OL 3 (by decide) h), fun h => ST4 (OL 4 (by decide) h), fun h => ST5 (OL 5 (by decide) h), fun h => ST6 (OL 6 (by decide) h), fun h => ST7 (OL 7 (by decide) h), fun h => ST8 (OL 8 (by decide) h), fun h => ST9 (OL 9 (by decide) h), fun h => ST10 (OL 10 (by decide) h), fun h => ST11 (OL 11 (by decide) h), fun h => ST12 (OL 12 (by decide) h), fun h => ST13 (OL 13 (by decide) h)⟩
        · have hLf : L.getD 3 false = false := getD_false hl (by rw [hs]; decide)
          have hsz : 3 < L.size := by rw [hs]; decide
          have OL : ∀ j, j ≠ 3 → (L.setIfInBounds 3 true).getD j false = true → L.getD j false = true := fun j hj h => by rw [getD_setB _ _ _ _ hsz, if_neg hj] at h; exact h
          have hN : ((L.setIfInBounds 3 true).getD 8 false).toNat + ((L.setIfInBounds 3 true).getD 10 false).toNat = (L.getD 8 false).toNat + (L.getD 10 false).toNat := by
            rw [getD_setB _ _ _ _ hsz, getD_setB _ _ _ _ hsz, if_neg (by decide), if_neg (by decide)]
          have d2 := hd _ rfl ⟨2, .data⟩ (by simp) rfl
          obtain rfl := p2 d2
          obtain ⟨g3, rc3, e3, c2, -, -, -, -, -⟩ := hG.row (i := m.toNat) (by omega)
          rw [hrow] at e3
          simp only [Value.slice.injEq, Option.some.injEq, Addr.mk.injEq, and_true, true_and] at e3
          obtain ⟨rfl, rfl⟩ := e3
          have ST0 := p0
          have ST1 := p1
          have ST2 := p2
          have ST3 := p3
          have ST4 := p4
          have ST5 := p5
          have ST6 := p6
          have ST7 := p7
          have ST8 := p8
          have ST9 := p9
          have ST10 := p10
          have ST11 := p11
          have ST12 := p12
          have ST13 := p13
          refine wpOp_run rfl rfl fun K hK => ?_
          clear hd hs hi hl
          go_simp
          refine hK _ _ ⟨_, _, _, _, _, _, _, _, _, _, _, _, _, _, rfl, by rw [hN]; exact hG, fun h => ST0 (OL 0 (by decide) h), fun h => ST1 (OL 1 (by decide) h), fun h => ST2 (OL 2 (by decide) h), fun _ => rfl, fun h => ST4 (OL 4 (by decide) h), fun h => ST5 (OL 5 (by decide) h), fun h => ST6 (OL 6 (by decide) h), fun h => ST7 (OL 7 (by decide) h), fun h => ST8 (OL 8 (by decide) h), fun h => ST9 (OL 9 (by decide) h), fun h => ST10 (OL 10 (by decide) h), fun h => ST11 (OL 11 (by decide) h), fun h => ST12 (OL 12 (by decide) h), fun h => ST13 (OL 13 (by decide) h)⟩
        · have hLf : L.getD 4 false = false := getD_false hl (by rw [hs]; decide)
          have hsz : 4 < L.size := by rw [hs]; decide
          have OL : ∀ j, j ≠ 4 → (L.setIfInBounds 4 true).getD j false = true → L.getD j false = true := fun j hj h => by rw [getD_setB _ _ _ _ hsz, if_neg hj] at h; exact h
          have hN : ((L.setIfInBounds 4 true).getD 8 false).toNat + ((L.setIfInBounds 4 true).getD 10 false).toNat = (L.getD 8 false).toNat + (L.getD 10 false).toNat := by
            rw [getD_setB _ _ _ _ hsz, getD_setB _ _ _ _ hsz, if_neg (by decide), if_neg (by decide)]
          have ST0 := p0
          have ST1 := p1
          have ST2 := p2
          have ST3 := p3
          have ST4 := p4
          have ST5 := p5
          have ST6 := p6
          have ST7 := p7
          have ST8 := p8
          have ST9 := p9
          have ST10 := p10
          have ST11 := p11
          have ST12 := p12
          have ST13 := p13
          refine wpOp_run rfl rfl fun K hK => ?_
          clear hd hs hi hl
          go_simp
          refine hK _ _ ⟨_, _, _, _, _, _, _, _, _, _, _, _, _, _, rfl, by rw [hN]; exact hG, fun h => ST0 (OL 0 (by decide) h), fun h => ST1 (OL 1 (by decide) h), fun h => ST2 (OL 2 (by decide) h), fun h => ST3 (OL 3 (by decide) h), fun _ => rfl, fun h => ST5 (OL 5 (by decide) h), fun h => ST6 (OL 6 (by decide) h), fun h => ST7 (OL 7 (by decide) h), fun h => ST8 (OL 8 (by decide) h), fun h => ST9 (OL 9 (by decide) h), fun h => ST10 (OL 10 (by decide) h), fun h => ST11 (OL 11 (by decide) h), fun h => ST12 (OL 12 (by decide) h), fun h => ST13 (OL 13 (by decide) h)⟩
        · have hLf : L.getD 5 false = false := getD_false hl (by rw [hs]; decide)
          have hsz : 5 < L.size := by rw [hs]; decide
          have OL : ∀ j, j ≠ 5 → (L.setIfInBounds 5 true).getD j false = true → L.getD j false = true := fun j hj h => by rw [getD_setB _ _ _ _ hsz, if_neg hj] at h; exact h
          have hN : ((L.setIfInBounds 5 true).getD 8 false).toNat + ((L.setIfInBounds 5 true).getD 10 false).toNat = (L.getD 8 false).toNat + (L.getD 10 false).toNat := by
            rw [getD_setB _ _ _ _ hsz, getD_setB _ _ _ _ hsz, if_neg (by decide), if_neg (by decide)]
          have d4 := hd _ rfl ⟨4, .data⟩ (by simp) rfl
          obtain rfl := p4 d4
          have ST0 := p0
          have ST1 := p1
          have ST2 := p2
          have ST3 := p3
          have ST4 := p4
          have ST5 := p5
          have ST6 := p6
          have ST7 := p7
          have ST8 := p8
          have ST9 := p9
          have ST10 := p10
          have ST11 := p11
          have ST12 := p12
          have ST13 := p13
          refine wpOp_run rfl rfl fun K hK => ?_
          clear hd hs hi hl
          go_simp
          refine hK _ _ ⟨_, _, _, _, _, _, _, _, _, _, _, _, _, _, rfl, by rw [hN]; exact hG, fun h => ST0 (OL 0 (by decide) h), fun h => ST1 (OL 1 (by decide) h), fun h => ST2 (OL 2 (by decide) h), fun h => ST3 (OL 3 (by decide) h), fun h => ST4 (OL 4 (by decide) h), fun _ => by first | rfl | exact congrArg (Value.int .i64) E4, fun h => ST6 (OL 6 (by decide) h), fun h => ST7 (OL 7 (by decide) h), fun h => ST8 (OL 8 (by decide) h), fun h => ST9 (OL 9 (by decide) h), fun h => ST10 (OL 10 (by decide) h), fun h => ST11 (OL 11 (by decide) h), fun h => ST12 (OL 12 (by decide) h), fun h => ST13 (OL 13 (by decide) h)⟩
        · have hLf : L.getD 6 false = false := getD_false hl (by rw [hs]; decide)
          have hsz : 6 < L.size := by rw [hs]; decide
          have OL : ∀ j, j ≠ 6 → (L.setIfInBounds 6 true).getD j false = true → L.getD j false = true := fun j hj h => by rw [getD_setB _ _ _ _ hsz, if_neg hj] at h; exact h
          have hN : ((L.setIfInBounds 6 true).getD 8 false).toNat + ((L.setIfInBounds 6 true).getD 10 false).toNat = (L.getD 8 false).toNat + (L.getD 10 false).toNat := by
            rw [getD_setB _ _ _ _ hsz, getD_setB _ _ _ _ hsz, if_neg (by decide), if_neg (by decide)]
          have d5 := hd _ rfl ⟨5, .data⟩ (by simp) rfl
          obtain rfl := p5 d5
          have d40 : 0 ≤ d / 4 := by omega
          have ST0 := p0
          have ST1 := p1
          have ST2 := p2
          have ST3 := p3
          have ST4 := p4
          have ST5 := p5
          have ST6 := p6
          have ST7 := p7
          have ST8 := p8
          have ST9 := p9
          have ST10 := p10
          have ST11 := p11
          have ST12 := p12
          have ST13 := p13
          refine wpOp_run rfl rfl fun K hK => ?_
          clear hd hs hi hl
          go_simp
          refine hK _ _ ⟨_, _, _, _, _, _, _, _, _, _, _, _, _, _, rfl, by rw [hN]; exact hG, fun h => ST0 (OL 0 (by decide) h), fun h => ST1 (OL 1 (by decide) h), fun h => ST2 (OL 2 (by decide) h), fun h => ST3 (OL 3 (by decide) h), fun h => ST4 (OL 4 (by decide) h), fun h => ST5 (OL 5 (by decide) h), fun _ => by first | rfl | exact congrArg (Value.int .i64) E44, fun h => ST7 (OL 7 (by decide) h), fun h => ST8 (OL 8 (by decide) h), fun h => ST9 (OL 9 (by decide) h), fun h => ST10 (OL 10 (by decide) h), fun h => ST11 (OL 11 (by decide) h), fun h => ST12 (OL 12 (by decide) h), fun h => ST13 (OL 13 (by decide) h)⟩
        · have hLf : L.getD 7 false = false := getD_false hl (by rw [hs]; decide)
          have hsz : 7 < L.size := by rw [hs]; decide
          have OL : ∀ j, j ≠ 7 → (L.setIfInBounds 7 true).getD j false = true → L.getD j false = true := fun j hj h => by rw [getD_setB _ _ _ _ hsz, if_neg hj] at h; exact h
          have hN : ((L.setIfInBounds 7 true).getD 8 false).toNat + ((L.setIfInBounds 7 true).getD 10 false).toNat = (L.getD 8 false).toNat + (L.getD 10 false).toNat := by
            rw [getD_setB _ _ _ _ hsz, getD_setB _ _ _ _ hsz, if_neg (by decide), if_neg (by decide)]
          have ST0 := p0
          have ST1 := p1
          have ST2 := p2
          have ST3 := p3
          have ST4 := p4
          have ST5 := p5
          have ST6 := p6
          have ST7 := p7
          have ST8 := p8
          have ST9 := p9
          have ST10 := p10
          have ST11 := p11
          have ST12 := p12
          have ST13 := p13
          refine wpOp_run rfl rfl fun K hK => ?_
          clear hd hs hi hl
          go_simp
          refine hK _ _ ⟨_, _, _, _, _, _, _, _, _, _, _, _, _, _, rfl, by rw [hN]; exact hG, fun h => ST0 (OL 0 (by decide) h), fun h => ST1 (OL 1 (by decide) h), fun h => ST2 (OL 2 (by decide) h), fun h => ST3 (OL 3 (by decide) h), fun h => ST4 (OL 4 (by decide) h), fun h => ST5 (OL 5 (by decide) h), fun h => ST6 (OL 6 (by decide) h), fun _ => rfl, fun h => ST8 (OL 8 (by decide) h), fun h => ST9 (OL 9 (by decide) h), fun h => ST10 (OL 10 (by decide) h), fun h => ST11 (OL 11 (by decide) h), fun h => ST12 (OL 12 (by decide) h), fun h => ST13 (OL 13 (by decide) h)⟩
        · have hLf : L.getD 8 false = false := getD_false hl (by rw [hs]; decide)
          have hsz : 8 < L.size := by rw [hs]; decide
          have OL : ∀ j, j ≠ 8 → (L.setIfInBounds 8 true).getD j false = true → L.getD j false = true := fun j hj h => by rw [getD_setB _ _ _ _ hsz, if_neg hj] at h; exact h
          have hN : ((L.setIfInBounds 8 true).getD 8 false).toNat + ((L.setIfInBounds 8 true).getD 10 false).toNat = (L.getD 8 false).toNat + (L.getD 10 false).toNat + 1 := by
            rw [getD_setB _ _ _ _ hsz, getD_setB _ _ _ _ hsz, if_pos rfl, if_neg (by decide), hLf]; simp; try omega
          have d7 := hd _ rfl ⟨7, .data⟩ (by simp) rfl
          obtain rfl := p7 d7
          refine wpOp_run rfl rfl fun K hK => ?_
          clear hd hs hi hl
          go_simp
          refine (pick_c _ _ 12 _ hG.2.1 (by have := two_bools (L.getD 8 false) (L.getD 10 false); omega) (by omega) (by omega)).mono ?_
          rintro e W2 ⟨k3, k30, k31, rfl, hgk, hrk⟩
          have ST0 := p0
          have ST1 := p1
          have ST2 := p2
          have ST3 := p3
          have ST4 := p4
          have ST5 := p5
          have ST6 := p6
          have ST7 := p7
          have ST8 := p8
          have ST9 := p9
          have ST10 := p10
          have ST11 := p11
          have ST12 := p12
          have ST13 := p13
          refine hK _ _ ⟨_, _, _, _, _, _, _, _, _, _, _, _, _, _, rfl, by rw [hN]; exact (hG.call hgk hrk).more (by omega), fun h => ST0 (OL 0 (by decide) h), fun h => ST1 (OL 1 (by decide) h), fun h => ST2 (OL 2 (by decide) h), fun h => ST3 (OL 3 (by decide) h), fun h => ST4 (OL 4 (by decide) h), fun h => ST5 (OL 5 (by decide) h), fun h => ST6 (OL 6 (by decide) h), fun h => ST7 (OL 7 (by decide) h), fun _ => ⟨k3, rfl, k30, by omega⟩, fun h => ST9 (OL 9 (by decide) h), fun h => ST10 (OL 10 (by decide) h), fun h => ST11 (OL 11 (by decide) h), fun h => ST12 (OL 12 (by decide) h), fun h => ST13 (OL 13 (by decide) h)⟩
        · have hLf : L.getD 9 false = false := getD_false hl (by rw [hs]; decide)
          have hsz : 9 < L.size := by rw [hs]; decide
          have OL : ∀ j, j ≠ 9 → (L.setIfInBounds 9 true).getD j false = true → L.getD j false = true := fun j hj h => by rw [getD_setB _ _ _ _ hsz, if_neg hj] at h; exact h
          have hN : ((L.setIfInBounds 9 true).getD 8 false).toNat + ((L.setIfInBounds 9 true).getD 10 false).toNat = (L.getD 8 false).toNat + (L.getD 10 false).toNat := by
            rw [getD_setB _ _ _ _ hsz, getD_setB _ _ _ _ hsz, if_neg (by decide), if_neg (by decide)]
          have ST0 := p0
          have ST1 := p1
          have ST2 := p2
          have ST3 := p3
          have ST4 := p4
          have ST5 := p5
          have ST6 := p6
          have ST7 := p7
          have ST8 := p8
          have ST9 := p9
          have ST10 := p10
          have ST11 := p11
          have ST12 := p12
          have ST13 := p13
          refine wpOp_run rfl rfl fun K hK => ?_
          clear hd hs hi hl
          go_simp
          refine hK _ _ ⟨_, _, _, _, _, _, _, _, _, _, _, _, _, _, rfl, by rw [hN]; exact hG, fun h => ST0 (OL 0 (by decide) h), fun h => ST1 (OL 1 (by decide) h), fun h => ST2 (OL 2 (by decide) h), fun h => ST3 (OL 3 (by decide) h), fun h => ST4 (OL 4 (by decide) h), fun h => ST5 (OL 5 (by decide) h), fun h => ST6 (OL 6 (by decide) h), fun h => ST7 (OL 7 (by decide) h), fun h => ST8 (OL 8 (by decide) h), fun _ => rfl, fun h => ST10 (OL 10 (by decide) h), fun h => ST11 (OL 11 (by decide) h), fun h => ST12 (OL 12 (by decide) h), fun h => ST13 (OL 13 (by decide) h)⟩
        · have hLf : L.getD 10 false = false := getD_false hl (by rw [hs]; decide)
          have hsz : 10 < L.size := by rw [hs]; decide
          have OL : ∀ j, j ≠ 10 → (L.setIfInBounds 10 true).getD j false = true → L.getD j false = true := fun j hj h => by rw [getD_setB _ _ _ _ hsz, if_neg hj] at h; exact h
          have hN : ((L.setIfInBounds 10 true).getD 8 false).toNat + ((L.setIfInBounds 10 true).getD 10 false).toNat = (L.getD 8 false).toNat + (L.getD 10 false).toNat + 1 := by
            rw [getD_setB _ _ _ _ hsz, getD_setB _ _ _ _ hsz, if_neg (by decide), if_pos rfl, hLf]; simp; try omega
          have d9 := hd _ rfl ⟨9, .data⟩ (by simp) rfl
          obtain rfl := p9 d9
          refine wpOp_run rfl rfl fun K hK => ?_
          clear hd hs hi hl
          go_simp
          refine (pick_c _ _ 3 _ hG.2.1 (by have := two_bools (L.getD 8 false) (L.getD 10 false); omega) (by omega) (by omega)).mono ?_
          rintro e W2 ⟨k3, k30, k31, rfl, hgk, hrk⟩
          have ST0 := p0
          have ST1 := p1
          have ST2 := p2
          have ST3 := p3
          have ST4 := p4
          have ST5 := p5
          have ST6 := p6
          have ST7 := p7
          have ST8 := p8
          have ST9 := p9
          have ST10 := p10
          have ST11 := p11
          have ST12 := p12
          have ST13 := p13
          refine hK _ _ ⟨_, _, _, _, _, _, _, _, _, _, _, _, _, _, rfl, by rw [hN]; exact (hG.call hgk hrk).more (by omega), fun h => ST0 (OL 0 (by decide) h), fun h => ST1 (OL 1 (by decide) h), fun h => ST2 (OL 2 (by decide) h), fun h => ST3 (OL 3 (by decide) h), fun h => ST4 (OL 4 (by decide) h), fun h => ST5 (OL 5 (by decide) h), fun h => ST6 (OL 6 (by decide) h), fun h => ST7 (OL 7 (by decide) h), fun h => ST8 (OL 8 (by decide) h), fun h => ST9 (OL 9 (by decide) h), fun _ => ⟨k3, rfl, k30, by omega⟩, fun h => ST11 (OL 11 (by decide) h), fun h => ST12 (OL 12 (by decide) h), fun h => ST13 (OL 13 (by decide) h)⟩
        · have hLf : L.getD 11 false = false := getD_false hl (by rw [hs]; decide)
          have hsz : 11 < L.size := by rw [hs]; decide
          have OL : ∀ j, j ≠ 11 → (L.setIfInBounds 11 true).getD j false = true → L.getD j false = true := fun j hj h => by rw [getD_setB _ _ _ _ hsz, if_neg hj] at h; exact h
          have hN : ((L.setIfInBounds 11 true).getD 8 false).toNat + ((L.setIfInBounds 11 true).getD 10 false).toNat = (L.getD 8 false).toNat + (L.getD 10 false).toNat := by
            rw [getD_setB _ _ _ _ hsz, getD_setB _ _ _ _ hsz, if_neg (by decide), if_neg (by decide)]
          have d10 := hd _ rfl ⟨10, .data⟩ (by simp) rfl
          obtain ⟨k3, rfl, k30, k31⟩ := p10 d10
          have ST0 := p0
          have ST1 := p1
          have ST2 := p2
          have ST3 := p3
          have ST4 := p4
          have ST5 := p5
          have ST6 := p6
          have ST7 := p7
          have ST8 := p8
          have ST9 := p9
          have ST10 := p10
          have ST11 := p11
          have ST12 := p12
          have ST13 := p13
          refine wpOp_run rfl rfl fun K hK => ?_
          clear hd hs hi hl
          go_simp
          refine hK _ _ ⟨_, _, _, _, _, _, _, _, _, _, _, _, _, _, rfl, by rw [hN]; exact hG, fun h => ST0 (OL 0 (by decide) h), fun h => ST1 (OL 1 (by decide) h), fun h => ST2 (OL 2 (by decide) h), fun h => ST3 (OL 3 (by decide) h), fun h => ST4 (OL 4 (by decide) h), fun h => ST5 (OL 5 (by decide) h), fun h => ST6 (OL 6 (by decide) h), fun h => ST7 (OL 7 (by decide) h), fun h => ST8 (OL 8 (by decide) h), fun h => ST9 (OL 9 (by decide) h), fun h => ST10 (OL 10 (by decide) h), fun _ => ⟨_, rfl⟩, fun h => ST12 (OL 12 (by decide) h), fun h => ST13 (OL 13 (by decide) h)⟩
        · have hLf : L.getD 12 false = false := getD_false hl (by rw [hs]; decide)
          have hsz : 12 < L.size := by rw [hs]; decide
          have OL : ∀ j, j ≠ 12 → (L.setIfInBounds 12 true).getD j false = true → L.getD j false = true := fun j hj h => by rw [getD_setB _ _ _ _ hsz, if_neg hj] at h; exact h
          have hN : ((L.setIfInBounds 12 true).getD 8 false).toNat + ((L.setIfInBounds 12 true).getD 10 false).toNat = (L.getD 8 false).toNat + (L.getD 10 false).toNat := by
            rw [getD_setB _ _ _ _ hsz, getD_setB _ _ _ _ hsz, if_neg (by decide), if_neg (by decide)]
          have d8 := hd _ rfl ⟨8, .data⟩ (by simp) rfl
          have d11 := hd _ rfl ⟨11, .data⟩ (by simp) rfl
          obtain ⟨k3, rfl, k30, k31⟩ := p8 d8
          obtain ⟨bb, rfl⟩ := p11 d11
          refine wpOp_run rfl rfl fun K hK => ?_
          clear hd hs hi hl
          go_simp
          refine (l1Put_c _ _ _ (by omega) (by omega)).mono ?_
          rintro e W2 ⟨rfl, rfl⟩
          have ST0 := p0
          have ST1 := p1
          have ST2 := p2
          have ST3 := p3
          have ST4 := p4
          have ST5 := p5
          have ST6 := p6
          have ST7 := p7
          have ST8 := p8
          have ST9 := p9
          have ST10 := p10
          have ST11 := p11
          have ST12 := p12
          have ST13 := p13
          refine hK _ _ ⟨_, _, _, _, _, _, _, _, _, _, _, _, _, _, rfl, by rw [hN]; exact hG, fun h => ST0 (OL 0 (by decide) h), fun h => ST1 (OL 1 (by decide) h), fun h => ST2 (OL 2 (by decide) h), fun h => ST3 (OL 3 (by decide) h), fun h => ST4 (OL 4 (by decide) h), fun h => ST5 (OL 5 (by decide) h), fun h => ST6 (OL 6 (by decide) h), fun h => ST7 (OL 7 (by decide) h), fun h => ST8 (OL 8 (by decide) h), fun h => ST9 (OL 9 (by decide) h), fun h => ST10 (OL 10 (by decide) h), fun h => ST11 (OL 11 (by decide) h), fun _ => ⟨_, rfl⟩, fun h => ST13 (OL 13 (by decide) h)⟩
        · have hLf : L.getD 13 false = false := getD_false hl (by rw [hs]; decide)
          have hsz : 13 < L.size := by rw [hs]; decide
          have OL : ∀ j, j ≠ 13 → (L.setIfInBounds 13 true).getD j false = true → L.getD j false = true := fun j hj h => by rw [getD_setB _ _ _ _ hsz, if_neg hj] at h; exact h
          have hN : ((L.setIfInBounds 13 true).getD 8 false).toNat + ((L.setIfInBounds 13 true).getD 10 false).toNat = (L.getD 8 false).toNat + (L.getD 10 false).toNat := by
            rw [getD_setB _ _ _ _ hsz, getD_setB _ _ _ _ hsz, if_neg (by decide), if_neg (by decide)]
          have d3 := hd _ rfl ⟨3, .data⟩ (by simp) rfl
          have d6 := hd _ rfl ⟨6, .data⟩ (by simp) rfl
          obtain rfl := p3 d3
          obtain rfl := p6 d6
          have d4 : d / 4 % 4 < 4 := by omega
          have d40 : 0 ≤ d / 4 % 4 := by omega
          have ST0 := p0
          have ST1 := p1
          have ST2 := p2
          have ST3 := p3
          have ST4 := p4
          have ST5 := p5
          have ST6 := p6
          have ST7 := p7
          have ST8 := p8
          have ST9 := p9
          have ST10 := p10
          have ST11 := p11
          have ST12 := p12
          have ST13 := p13
          refine wpOp_run rfl rfl fun K hK => ?_
          clear hd hs hi hl
          go_simp
          refine hK _ _ ⟨_, _, _, _, _, _, _, _, _, _, _, _, _, _, rfl, by rw [hN]; exact hG, fun h => ST0 (OL 0 (by decide) h), fun h => ST1 (OL 1 (by decide) h), fun h => ST2 (OL 2 (by decide) h), fun h => ST3 (OL 3 (by decide) h), fun h => ST4 (OL 4 (by decide) h), fun h => ST5 (OL 5 (by decide) h), fun h => ST6 (OL 6 (by decide) h), fun h => ST7 (OL 7 (by decide) h), fun h => ST8 (OL 8 (by decide) h), fun h => ST9 (OL 9 (by decide) h), fun h => ST10 (OL 10 (by decide) h), fun h => ST11 (OL 11 (by decide) h), fun h => ST12 (OL 12 (by decide) h), fun _ => rfl⟩
        · have hLf : L.getD 14 false = false := getD_false hl (by rw [hs]; decide)
          have hsz : 14 < L.size := by rw [hs]; decide
          have OL : ∀ j, j ≠ 14 → (L.setIfInBounds 14 true).getD j false = true → L.getD j false = true := fun j hj h => by rw [getD_setB _ _ _ _ hsz, if_neg hj] at h; exact h
          have hN : ((L.setIfInBounds 14 true).getD 8 false).toNat + ((L.setIfInBounds 14 true).getD 10 false).toNat = (L.getD 8 false).toNat + (L.getD 10 false).toNat := by
            rw [getD_setB _ _ _ _ hsz, getD_setB _ _ _ _ hsz, if_neg (by decide), if_neg (by decide)]
          have d12 := hd _ rfl ⟨12, .data⟩ (by simp) rfl
          have d13 := hd _ rfl ⟨13, .data⟩ (by simp) rfl
          obtain ⟨x, rfl⟩ := p12 d12
          obtain rfl := p13 d13
          obtain ⟨g3, rc3, e3, -, -, cc, zz, -, -⟩ := hG.row (i := m.toNat) (by omega)
          rw [hrow] at e3
          simp only [Value.slice.injEq, Option.some.injEq, Addr.mk.injEq, and_true, true_and] at e3
          obtain ⟨rfl, rfl⟩ := e3
          obtain ⟨y, hy⟩ := cc (d / 4 % 4).toNat (by omega)
          have hf := zz (d / 4 % 4).toNat
          clear cc zz
          have ST0 := p0
          have ST1 := p1
          have ST2 := p2
          have ST3 := p3
          have ST4 := p4
          have ST5 := p5
          have ST6 := p6
          have ST7 := p7
          have ST8 := p8
          have ST9 := p9
          have ST10 := p10
          have ST11 := p11
          have ST12 := p12
          have ST13 := p13
          refine wpOp_run rfl rfl fun K hK => ?_
          clear hd hs hi hl
          go_simp
          refine hK _ _ ⟨_, _, _, _, _, _, _, _, _, _, _, _, _, _, rfl, by rw [hN]; exact hG.put (i := m.toNat) (by omega) (by omega) hrow _, fun h => ST0 (OL 0 (by decide) h), fun h => ST1 (OL 1 (by decide) h), fun h => ST2 (OL 2 (by decide) h), fun h => ST3 (OL 3 (by decide) h), fun h => ST4 (OL 4 (by decide) h), fun h => ST5 (OL 5 (by decide) h), fun h => ST6 (OL 6 (by decide) h), fun h => ST7 (OL 7 (by decide) h), fun h => ST8 (OL 8 (by decide) h), fun h => ST9 (OL 9 (by decide) h), fun h => ST10 (OL 10 (by decide) h), fun h => ST11 (OL 11 (by decide) h), fun h => ST12 (OL 12 (by decide) h), fun h => ST13 (OL 13 (by decide) h)⟩
      · rintro L2 act W2 ⟨u47, u48, u49, u50, u51, u52, u53, u54, u55, u56, u57, u58, u59, u60, rfl, hG, p0, p1, p2, p3, p4, p5, p6, p7, p8, p9, p10, p11, p12, p13⟩ _
        obtain ⟨L3, hfin⟩ := hG.drawn HG1.out hlt
        have HE := Lib.hid hfin
        clear hG hfin p0 p1 p2 p3 p4 p5 p6 p7 p8 p9 p10 p11 p12 p13
        go_wp2_with fail
        go_ret3
        exact HFIN.out _ _ _ HE.out
end Go.Proofs.Ytbgiabhfgjnggaa
