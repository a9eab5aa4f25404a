/-
  The drawing of memories. No conditions.
-/
import Derived.Test.YtjmlfjpocjmnpaaMemDraw
import Derived.Deep.RegionHeld3
namespace Go.Proofs.Ytjmlfjpocjmnpaa
open Go.RowKit

def VInt (lo hi : Int) (u : Value) : Prop := ∃ v : Int, u = .int .i64 v ∧ lo ≤ v ∧ v ≤ hi
def AnyInt (u : Value) : Prop := ∃ v : Int, u = .int .i64 v
def VRow (g : Nat) (u : Value) : Prop := ∃ i : Nat, i < 12 ∧ u = .pointer (some ⟨g, i, none⟩)
def VList (vs : List Value) (u : Value) : Prop := ∃ i g2 rc, i < 12 ∧ vs.getD i nilV = .slice (some ⟨g2, 0, none⟩) 4 rc ∧ u = .slice (some ⟨g2, 0, none⟩) 4 rc
def VCell (vs : List Value) (u : Value) : Prop := ∃ i g2 rc j, i < 12 ∧ j < 4 ∧ vs.getD i nilV = .slice (some ⟨g2, 0, none⟩) 4 rc ∧ u = .pointer (some ⟨g2, j, none⟩)
/-- A new row of two numbers behind block hi. -/
def VLit (br hi : Nat) (u : Value) (w : World) : Prop := ∃ b, u = .slice (some ⟨b, 0, none⟩) 2 2 ∧ b ≠ br ∧ hi ≤ b ∧ ∀ i, i < 2 → ∃ v : Int, w.cell? ⟨b, i, none⟩ = some (.int .i64 v)
def VLitP (br hi : Nat) (u : Value) (w : World) : Prop := ∃ (b i : Nat) (v : Int), u = .pointer (some ⟨b, i, none⟩) ∧ b ≠ br ∧ hi ≤ b ∧ w.cell? ⟨b, i, none⟩ = some (.int .i64 v)
theorem VLit.kept {br hi : Nat} {u : Value} {w w' : World} (h : VLit br hi u w) (hg : w.grownBy w' (some br)) : VLit br hi u w' := by
  obtain ⟨b, h1, h2, h2', h3⟩ := h
  refine ⟨b, h1, h2, h2', fun i hi => ?_⟩
  obtain ⟨v, hc⟩ := h3 i hi
  exact ⟨v, hg.cell hc (fun e => h2 (Option.some.inj e))⟩
theorem VLitP.kept {br hi : Nat} {u : Value} {w w' : World} (h : VLitP br hi u w) (hg : w.grownBy w' (some br)) : VLitP br hi u w' := by
  obtain ⟨b, i, v, h1, h2, h2', hc⟩ := h
  exact ⟨b, i, v, h1, h2, h2', hg.cell hc (fun e => h2 (Option.some.inj e))⟩
theorem VLit.set {br hi g : Nat} {u : Value} {w : World} (h : VLit br hi u w) (hlt : g < hi) (j : Nat) (x : Value) : VLit br hi u (w.setCell ⟨g, j, none⟩ x) := by
  obtain ⟨b, h1, h2, h2', h3⟩ := h
  refine ⟨b, h1, h2, h2', fun i hi => ?_⟩
  obtain ⟨v, hc⟩ := h3 i hi
  exact ⟨v, (World.cell?_of_block (w := w) (Below.heap_setCell w ⟨g, j, none⟩ x b (by show b ≠ g; omega))).trans hc⟩
theorem VLitP.set {br hi g : Nat} {u : Value} {w : World} (h : VLitP br hi u w) (hlt : g < hi) (j : Nat) (x : Value) : VLitP br hi u (w.setCell ⟨g, j, none⟩ x) := by
  obtain ⟨b, i, v, h1, h2, h2', hc⟩ := h
  exact ⟨b, i, v, h1, h2, h2', (World.cell?_of_block (w := w) (Below.heap_setCell w ⟨g, j, none⟩ x b (by show b ≠ g; omega))).trans hc⟩
theorem litNew (x y : Int) (W : World) {br hi : Nat} (hlt : br < W.heap.size) (hg : hi ≤ W.heap.size) : VLit br hi (.slice (some ⟨W.heap.size, 0, none⟩) 2 2) (W.alloc (.cells #[.int .i64 x, .int .i64 y] 3)) := by
  refine ⟨W.heap.size, rfl, by omega, hg, fun i hi => ?_⟩
  have : i = 0 ∨ i = 1 := by omega
  rcases this with rfl | rfl
  · exact ⟨x, cell_new _ _ _ _ _ rfl⟩
  · exact ⟨y, cell_new _ _ _ _ _ rfl⟩
theorem getD_false {L : Array Bool} {i : Nat} (h : L.getD i true = false) (hi : i < L.size) : L.getD i false = false := by
  rw [Array.getD_eq_getD_getElem?, Array.getElem?_eq_getElem hi] at h ⊢
  exact h
theorem three_bools (a b c : Bool) : a.toNat + b.toNat + c.toNat ≤ 3 := by cases a <;> cases b <;> cases c <;> simp
theorem two_bools (a b : Bool) : a.toNat + b.toNat ≤ 2 := by cases a <;> cases b <;> simp
/-- The whole memory behind the drawing of its words. -/
theorem AtM.own {w2 w : World} {br lo hi g cap q : Nat} {vs : List Value} (h : AtM w2 br lo hi g cap vs q w) : ∃ ls, OwnM w lo hi (.slice (some ⟨g, 0, none⟩) 12 cap) ls ∧ Full ls := by
  obtain ⟨h1, h2, h3, h4, h5, h6, ls, h7, h8⟩ := h
  exact ⟨ls, ⟨vs, by rw [h3, h7.1], h8⟩, h7⟩
set_option maxHeartbeats 1000000 in
/-- Twelve new lists of zeros. -/
theorem l2New_c (w : World) : Calls Try.prog 43 #[] w fun e w' => ∃ v ls, e = .returned v ∧ OwnM w' w.heap.size w'.heap.size v ls ∧ Full ls ∧ w.grownBy w' none := by
  obtain ⟨i1, ji, jz0, jz1, jz2⟩ := info_parts infoRow
  have JI := Lib.hid ji
  have JZ0 := Lib.hid jz0
  have JZ1 := Lib.hid jz1
  have JZ2 := Lib.hid jz2
  have hmk : ∀ W : World, (Instr.makeSlice 26 (.int .i64 4) (.int .i64 4)).run Try.prog W = .ok (.slice (some ⟨W.heap.size, 0, none⟩) 4 4) (W.alloc (.cells #[.int .i64 0, .int .i64 0, .int .i64 0, .int .i64 0] 3)) := fun _ => by kernel_rfl
  have HO0 : Hid (∃ hi ls, hi ≤ (w.alloc (.cells #[] 26)).heap.size ∧ ls.length = 0 ∧ (∀ i, i < 0 → (ls.getD i []).length = 4) ∧ OwnM (w.alloc (.cells #[] 26)) w.heap.size hi (.slice (some ⟨w.heap.size, 0, none⟩) 0 0) ls) := ⟨_, [], by simp, rfl, fun _ h => absurd h (Nat.not_lt_zero _), OwnM.lit w w.heap.size (Nat.le_refl _)⟩
  have HG0 := Lib.hid (World.grownBy_alloc w (.cells #[] 26) none)
  clear ji jz0 jz1 jz2
  go_enter Try.func43, Try.ntmps43
  go_wp2
  go_loopw [1, 2] (fun v i wr => ∃ (k : Nat) (x : Value), k ≤ 12 ∧ i = .int .i64 k ∧ x = v ∧ w.grownBy wr none ∧ Hid (∃ hi ls, hi ≤ wr.heap.size ∧ ls.length = k ∧ (∀ i, i < k → (ls.getD i []).length = 4) ∧ OwnM wr w.heap.size hi x ls)) (fun _ i _ => 12 - (intOf i).toNat)
  case atStart => exact ⟨0, _, by omega, rfl, rfl, HG0.out, HO0.out⟩
  case round =>
    obtain ⟨k, v, hk, rfl, rfl, hg, hX⟩ := hrel
    by_cases hlt : k < 12
    · have hlt' : (k : Int) < 12 := by omega
      obtain ⟨hi, ls, hhi, hlen, h4, vs, v1, v2⟩ := hX.out
      have hgs := hg.size
      have HG := Lib.hid hg
      have HP : Hid (vs.length = k ∧ ls.length = k ∧ (∀ i, i < k → (ls.getD i []).length = 4) ∧ Part (wr.alloc (.cells #[.int .i64 0, .int .i64 0, .int .i64 0, .int .i64 0] 3)) w.heap.size wr.heap.size v vs ls.length ls) := ⟨by omega, hlen, h4, (v2.mono hhi).gnone (World.grownBy_alloc wr _ none)⟩
      have HPR := Lib.hid HP.out.2.2.2.row
      clear hX v1 v2 hhi hg h4 hlen
      go_wp2_with (at_builtin; refine wpList_append_own_at _ rfl _ _ 23 rfl w.heap.size 26 i1 (.slice none 0 0) 1 24 Try.underlying23 JI.out JZ0.out JZ1.out JZ2.out rfl (by decide) _ _ _ rfl (World.ownsRow.alloc HPR.out _) ⟨wr.heap.size + 1, 0, none⟩ 1 1 [.slice (some ⟨wr.heap.size, 0, none⟩) 4 4] rfl rfl ?d1 ?d2 ?d3 ?d4 ?d5 ?_)
      case d1 => have := one_new (wr.alloc (.cells #[.int .i64 0, .int .i64 0, .int .i64 0, .int .i64 0] 3)) 26 (.slice (some ⟨wr.heap.size, 0, none⟩) 4 4); simpa using this
      case d2 => intro u hu; simp at hu; subst hu; rfl
      case d3 => rw [HP.out.1]; unfold maxLen; omega
      case d4 => rw [HP.out.1]; omega
      case d5 => simp; omega
      intro v' w2 hv' hgv _ hat
      have HX : Hid (w.grownBy w2 none ∧ ∃ hi ls, hi ≤ w2.heap.size ∧ ls.length = k + 1 ∧ (∀ i, i < k + 1 → (ls.getD i []).length = 4) ∧ OwnM w2 w.heap.size hi v' ls) := by
        obtain ⟨p1, p2, p3, p4⟩ := HP.out
        have hrow : OwnI (wr.alloc (.cells #[.int .i64 0, .int .i64 0, .int .i64 0, .int .i64 0] 3)) wr.heap.size (.slice (some ⟨wr.heap.size, 0, none⟩) 4 4) [0, 0, 0, 0] := World.ownsRow_lit wr _ 4 (Nat.le_refl _) (by unfold maxLen; omega) rfl
        have hal := World.grownBy_alloc (wr.alloc (.cells #[.int .i64 0, .int .i64 0, .int .i64 0, .int .i64 0] 3)) (.cells #[.slice (some ⟨wr.heap.size, 0, none⟩) 4 4] 26) none
        have hp := OwnM.push (by rw [p1, p2]) (p4.gnone hal) (by simp; omega) hgs (hrow.keptN hal) (by rw [p1] at hv' ⊢; exact hv') hgv (by simpa using hat)
        have h3 : w.grownBy ((wr.alloc (.cells #[.int .i64 0, .int .i64 0, .int .i64 0, .int .i64 0] 3)).alloc (.cells #[.slice (some ⟨wr.heap.size, 0, none⟩) 4 4] 26)) none := none_alloc (none_alloc HG.out _) _
        refine ⟨((Turned.of_none h3 w.heap.size wr.heap.size).trans hp.2).gnone (Nat.le_refl _), w2.heap.size, _, Nat.le_refl _, by rw [List.length_append, p2]; rfl, fun i hi => ?_, hp.1⟩
        rw [List.getD_eq_getElem?_getD]
        by_cases e : i < k
        · rw [List.getElem?_append_left (by omega), ← List.getD_eq_getElem?_getD]; exact p3 i e
        · rw [List.getElem?_append_right (by omega), show i - ls.length = 0 from by omega]; rfl
      clear hv' hgv hat
      go_wp2_with fail
      go_roundw
      case rel => exact ⟨k + 1, _, by omega, by go_num, rfl, HX.out.1, HX.out.2⟩
      case measure => simp [intOf]; omega
    · have : k = 12 := by omega
      subst this
      go_wp2_with fail
      go_ret
      obtain ⟨hi, ls, hhi, hlen, h4, ho⟩ := hX.out
      exact ⟨_, ls, rfl, ho.mono hhi, ⟨hlen, h4⟩, hg⟩
structure InvD6 (P0 V3 : Value) (w2 : World) (br lo hi g cp : Nat) (vs : List Value) (q : Nat) (n k : Int) (x6 x13 x14 x26 x27 x28 x29 x30 x31 x32 x33 x34 x35 x36 x37 x38 x39 x40 x41 x42 x43 x44 x45 x46 x47 x48 x49 x50 x51 x52 x53 x54 x55 x56 x57 x58 x59 x60 x61 : Value) (L : Array Bool) (act : Act) (w : World) : Prop where
  ex : ∃ u15 u16 u17 u18 u19 u20 u21 u22 u23 u24 u25 : Value, act = ⟨#[P0, undef, .slice none 0 0, V3, .int .i64 n, .int .i64 k, x6, V3, P0, .int .i64 n, .int .i64 k, .int .i64 n, .bool true, x13, x14, u15, u16, u17, u18, u19, u20, u21, u22, u23, u24, u25, x26, x27, x28, x29, x30, x31, x32, x33, x34, x35, x36, x37, x38, x39, x40, x41, x42, x43, x44, x45, x46, x47, x48, x49, x50, x51, x52, x53, x54, x55, x56, x57, x58, x59, x60, x61], []⟩ ∧ AtM w2 br lo hi g cp vs (q + 3 * ((L.getD 2 false).toNat + (L.getD 6 false).toNat + (L.getD 8 false).toNat)) w ∧
    (L.getD 0 false = true → u15 = V3) ∧
    (L.getD 1 false = true → u16 = P0) ∧
    (L.getD 2 false = true → VInt 0 11 u17) ∧
    (L.getD 3 false = true → VRow g u18) ∧
    (L.getD 4 false = true → VList vs u19) ∧
    (L.getD 5 false = true → u20 = P0) ∧
    (L.getD 6 false = true → VInt 0 3 u21) ∧
    (L.getD 7 false = true → u22 = P0) ∧
    (L.getD 8 false = true → AnyInt u23) ∧
    (L.getD 9 false = true → AnyInt u24) ∧
    (L.getD 10 false = true → VCell vs u25)
structure InvD10 (P0 V3 : Value) (w2 : World) (br lo hi g cp g2 rc : Nat) (vs : List Value) (q : Nat) (n m : Int) (x5 x7 x8 x9 x10 x11 x12 x13 x14 x15 x16 x17 x18 x19 x20 x21 x22 x23 x24 x25 x26 x27 x28 x29 x30 x31 x44 x45 x46 x47 x48 x49 x50 x51 x52 x53 x54 x55 x56 x57 x58 x59 x60 x61 : Value) (L : Array Bool) (act : Act) (w : World) : Prop where
  ex : ∃ u32 u33 u34 u35 u36 u37 u38 u39 u40 u41 u42 u43 : Value, act = ⟨#[P0, undef, .slice none 0 0, V3, .int .i64 n, x5, .int .i64 m, x7, x8, x9, x10, x11, x12, x13, x14, x15, x16, x17, x18, x19, x20, x21, x22, x23, x24, x25, x26, x27, x28, x29, x30, x31, u32, u33, u34, u35, u36, u37, u38, u39, u40, u41, u42, u43, x44, x45, x46, x47, x48, x49, x50, x51, x52, x53, x54, x55, x56, x57, x58, x59, x60, x61], []⟩ ∧ AtM w2 br lo hi g cp vs (q + 3 * ((L.getD 5 false).toNat + (L.getD 8 false).toNat)) w ∧
    (L.getD 0 false = true → u32 = V3) ∧
    (L.getD 1 false = true → u33 = .int .i64 m) ∧
    (L.getD 2 false = true → u34 = .pointer (some ⟨g, m.toNat, none⟩)) ∧
    (L.getD 3 false = true → u35 = .slice (some ⟨g2, 0, none⟩) 4 rc) ∧
    (L.getD 4 false = true → u36 = P0) ∧
    (L.getD 5 false = true → VInt 0 3 u37) ∧
    (L.getD 6 false = true → VLit br hi u38 w) ∧
    (L.getD 7 false = true → u39 = P0) ∧
    (L.getD 8 false = true → VInt 0 1 u40) ∧
    (L.getD 9 false = true → VLitP br hi u41 w) ∧
    (L.getD 10 false = true → AnyInt u42) ∧
    (L.getD 11 false = true → ∃ j : Nat, j < 4 ∧ u43 = .pointer (some ⟨g2, j, none⟩))
set_option maxHeartbeats 4000000 in
theorem l91Memory_c (br q : Nat) (w : World) (h : Rdr w br q) (hq : q ≤ 100000) : Calls Try.prog 26 #[.pointer (some ⟨br, 0, none⟩)] w (DrawnM w br (q + 500)) := by
  go_enter Try.func26, Try.ntmps26
  go_wp2_with fail
  refine (l2New_c w).mono ?_
  rintro e w1 ⟨v, ls0, rfl, ho, hfull, hg1⟩
  obtain ⟨g, cp, rfl, hgl⟩ : ∃ g cp, v = .slice (some ⟨g, 0, none⟩) 12 cp ∧ w.heap.size ≤ g := by
    rcases ho.cases with ⟨_, e⟩ | ⟨g, cp, e, hgl, _⟩
    · have := hfull.1; rw [e] at this; cases this
    · exact ⟨g, cp, by rw [e, hfull.1], hgl⟩
  have hbr := h.lt
  have hr1 : Rdr w1 br q := h.of_blocks fun j hj => hg1.block j (by omega) (fun e => by cases e)
  obtain ⟨vs, hA⟩ : ∃ vs, AtM w br w.heap.size w1.heap.size g cp vs q w1 := by
    obtain ⟨vs, v1, v2⟩ := ho
    exact ⟨vs, ⟨hg1.os, hg1.tape, hg1.output, hg1.size, fun k hk _ => hg1.block k hk (fun e => by cases e)⟩, hr1, by rw [v1, hfull.1], Nat.le_refl _, hbr, Nat.le_refl _, ls0, hfull, v2⟩
  have hww := hg1.size
  clear ho hfull hg1 h
  go_wp2_with fail
  refine (pick_c br q 30 _ hr1 (by omega) (by omega) (by omega)).mono ?_
  rintro e w2 ⟨n, n0, n1, rfl, hg2, hr2⟩
  have hA2 := hA.call hg2 hr2
  have HA2 := Lib.hid hA2
  generalize w1.heap.size = hi at *
  clear hA hA2 hg2 hr1 hr2
  go_wp2_with fail
  go_loopw [5] (fun i wr => ∃ k : Nat, (k : Int) ≤ n ∧ i = .int .i64 k ∧ AtM w br w.heap.size hi g cp vs (q + 1 + 9 * k) wr) (fun i _ => n.toNat - (intOf i).toNat)
  case atStart => exact ⟨0, by omega, rfl, HA2.out⟩
  case round =>
    obtain ⟨k, hk, rfl, hAk⟩ := hrel
    have HK := Lib.hid hAk
    clear hAk
    by_cases hlt : (k : Int) < n
    · go_wp2_with fail
      refine wp_region_inv (by kernel_rfl) (InvD6 (.pointer (some ⟨br, 0, none⟩)) (.slice (some ⟨g, 0, none⟩) 12 cp) w br w.heap.size hi g cp vs (q + 1 + 9 * k) n (k : Int) undef u13 u14 undef undef undef undef undef undef undef undef undef undef undef undef undef undef undef undef undef undef undef undef undef undef undef undef undef undef undef undef undef undef undef undef undef undef undef undef) (by kernel_rfl) ?_ ?_ ?_
      · exact ⟨_, _, _, _, _, _, _, _, _, _, _, rfl, HK.out.drew.more (by omega), by simp, by simp, by simp, by simp, by simp, by simp, by simp, by simp, by simp, by simp, by simp⟩
      · rintro L act W i hs ⟨u15, u16, u17, u18, u19, u20, u21, u22, u23, u24, u25, rfl, hG, p0, p1, p2, p3, p4, p5, p6, p7, p8, p9, p10⟩ hi hl hd
        have hi' : i < 12 := hi
        have hc' : i = 0 ∨ i = 1 ∨ i = 2 ∨ i = 3 ∨ i = 4 ∨ i = 5 ∨ i = 6 ∨ i = 7 ∨ i = 8 ∨ i = 9 ∨ i = 10 ∨ i = 11 := by omega
        rcases hc' with rfl | rfl | rfl | rfl | rfl | rfl | rfl | rfl | rfl | rfl | rfl | rfl
        · have hLf : L.getD 0 false = false := getD_false hl (by rw [hs]; decide)
          have hsz : 0 < L.size := by rw [hs]; decide
          have OL : ∀ j, j ≠ 0 → (L.setIfInBounds 0 true).getD j false = true → L.getD j false = true := fun j hj h => by rw [getD_setB _ _ _ _ hsz, if_neg hj] at h; exact h
          have hN : ((L.setIfInBounds 0 true).getD 2 false).toNat + ((L.setIfInBounds 0 true).getD 6 false).toNat + ((L.setIfInBounds 0 true).getD 8 false).toNat = (L.getD 2 false).toNat + (L.getD 6 false).toNat + (L.getD 8 false).toNat := by
            rw [getD_setB _ _ _ _ hsz, getD_setB _ _ _ _ hsz, getD_setB _ _ _ _ hsz, if_neg (by decide), if_neg (by decide), if_neg (by decide)]
          have ST0 := p0
          have ST1 := p1
          have ST2 := p2
          have ST3 := p3
          have ST4 := p4
          have ST5 := p5
          have ST6 := p6
          have ST7 := p7
          have ST8 := p8
          have ST9 := p9
          have ST10 := p10
          refine wpOp_run rfl rfl fun K hK => ?_
          clear hd hs hi hl
          go_simp
          refine hK _ _ ⟨_, _, _, _, _, _, _, _, _, _, _, rfl, by rw [hN]; exact hG, fun _ => rfl, fun h => ST1 (OL 1 (by decide) h), fun h => ST2 (OL 2 (by decide) h), fun h => ST3 (OL 3 (by decide) h), fun h => ST4 (OL 4 (by decide) h), fun h => ST5 (OL 5 (by decide) h), fun h => ST6 (OL 6 (by decide) h), fun h => ST7 (OL 7 (by decide) h), fun h => ST8 (OL 8 (by decide) h), fun h => ST9 (OL 9 (by decide) h), fun h => ST10 (OL 10 (by decide) h)⟩
        · have hLf : L.getD 1 false = false := getD_false hl (by rw [hs]; decide)
          have hsz : 1 < L.size := by rw [hs]; decide
          have OL : ∀ j, j ≠ 1 → (L.setIfInBounds 1 true).getD j false = true → L.getD j false = true := fun j hj h => by rw [getD_setB _ _ _ _ hsz, if_neg hj] at h; exact h
          have hN : ((L.setIfInBounds 1 true).getD 2 false).toNat + ((L.setIfInBounds 1 true).getD 6 false).toNat + ((L.setIfInBounds 1 true).getD 8 false).toNat = (L.getD 2 false).toNat + (L.getD 6 false).toNat + (L.getD 8 false).toNat := by
            rw [getD_setB _ _ _ _ hsz, getD_setB _ _ _ _ hsz, getD_setB _ _ _ _ hsz, if_neg (by decide), if_neg (by decide), if_neg (by decide)]
          have ST0 := p0
          have ST1 := p1
          have ST2 := p2
          have ST3 := p3
          have ST4 := p4
          have ST5 := p5
          have ST6 := p6
          have ST7 := p7
          have ST8 := p8
          have ST9 := p9
          have ST10 := p10
          refine wpOp_run rfl rfl fun K hK => ?_
          clear hd hs hi hl
          go_simp
          refine hK _ _ ⟨_, _, _, _, _, _, _, _, _, _, _, rfl, by rw [hN]; exact hG, fun h => ST0 (OL 0 (by decide) h), fun _ => rfl, fun h => ST2 (OL 2 (by decide) h), fun h => ST3 (OL 3 (by decide) h), fun h => ST4 (OL 4 (by decide) h), fun h => ST5 (OL 5 (by decide) h), fun h => ST6 (OL 6 (by decide) h), fun h => ST7 (OL 7 (by decide) h), fun h => ST8 (OL 8 (by decide) h), fun h => ST9 (OL 9 (by decide) h), fun h => ST10 (OL 10 (by decide) h)⟩
        · have hLf : L.getD 2 false = false := getD_false hl (by rw [hs]; decide)
          have hsz : 2 < L.size := by rw [hs]; decide
          have OL : ∀ j, j ≠ 2 → (L.setIfInBounds 2 true).getD j false = true → L.getD j false = true := fun j hj h => by rw [getD_setB _ _ _ _ hsz, if_neg hj] at h; exact h
          have hN : ((L.setIfInBounds 2 true).getD 2 false).toNat + ((L.setIfInBounds 2 true).getD 6 false).toNat + ((L.setIfInBounds 2 true).getD 8 false).toNat = (L.getD 2 false).toNat + (L.getD 6 false).toNat + (L.getD 8 false).toNat + 1 := by
            rw [getD_setB _ _ _ _ hsz, getD_setB _ _ _ _ hsz, getD_setB _ _ _ _ hsz, if_pos rfl, if_neg (by decide), if_neg (by decide), hLf]; simp; try omega
          have d1 := hd _ rfl ⟨1, .data⟩ (by simp) rfl
          obtain rfl := p1 d1
          refine wpOp_run rfl rfl fun K hK => ?_
          clear hd hs hi hl
          go_simp
          refine (pick_c _ _ 12 _ hG.2.1 (by have := three_bools (L.getD 2 false) (L.getD 6 false) (L.getD 8 false); omega) (by omega) (by omega)).mono ?_
          rintro e W2 ⟨k, k0, k1, rfl, hgk, hrk⟩
          have ST0 := p0
          have ST1 := p1
          have ST2 := p2
          have ST3 := p3
          have ST4 := p4
          have ST5 := p5
          have ST6 := p6
          have ST7 := p7
          have ST8 := p8
          have ST9 := p9
          have ST10 := p10
          refine hK _ _ ⟨_, _, _, _, _, _, _, _, _, _, _, rfl, by rw [hN]; exact (hG.call hgk hrk).more (by omega), fun h => ST0 (OL 0 (by decide) h), fun h => ST1 (OL 1 (by decide) h), fun _ => ⟨k, rfl, k0, by omega⟩, fun h => ST3 (OL 3 (by decide) h), fun h => ST4 (OL 4 (by decide) h), fun h => ST5 (OL 5 (by decide) h), fun h => ST6 (OL 6 (by decide) h), fun h => ST7 (OL 7 (by decide) h), fun h => ST8 (OL 8 (by decide) h), fun h => ST9 (OL 9 (by decide) h), fun h => ST10 (OL 10 (by decide) h)⟩
        · have hLf : L.getD 3 false = false := getD_false hl (by rw [hs]; decide)
          have hsz : 3 < L.size := by rw [hs]; decide
          have OL : ∀ j, j ≠ 3 → (L.setIfInBounds 3 true).getD j false = true → L.getD j false = true := fun j hj h => by rw [getD_setB _ _ _ _ hsz, if_neg hj] at h; exact h
          have hN : ((L.setIfInBounds 3 true).getD 2 false).toNat + ((L.setIfInBounds 3 true).getD 6 false).toNat + ((L.setIfInBounds 3 true).getD 8 false).toNat = (L.getD 2 false).toNat + (L.getD 6 false).toNat + (L.getD 8 false).toNat := by
            rw [getD_setB _ _ _ _ hsz, getD_setB _ _ _ _ hsz, getD_setB _ _ _ _ hsz, if_neg (by decide), if_neg (by decide), if_neg (by decide)]
          have d0 := hd _ rfl ⟨0, .data⟩ (by simp) rfl
          have d2 := hd _ rfl ⟨2, .data⟩ (by simp) rfl
          obtain rfl := p0 d0
          obtain ⟨k, rfl, k0, k1⟩ := p2 d2
          have k2 : k < 12 := by omega
          have ST0 := p0
          have ST1 := p1
          have ST2 := p2
          have ST3 := p3
          have ST4 := p4
          have ST5 := p5
          have ST6 := p6
          have ST7 := p7
          have ST8 := p8
          have ST9 := p9
          have ST10 := p10
          refine wpOp_run rfl rfl fun K hK => ?_
          clear hd hs hi hl
          go_simp
          refine hK _ _ ⟨_, _, _, _, _, _, _, _, _, _, _, rfl, by rw [hN]; exact hG, fun h => ST0 (OL 0 (by decide) h), fun h => ST1 (OL 1 (by decide) h), fun h => ST2 (OL 2 (by decide) h), fun _ => ⟨k.toNat, by omega, rfl⟩, fun h => ST4 (OL 4 (by decide) h), fun h => ST5 (OL 5 (by decide) h), fun h => ST6 (OL 6 (by decide) h), fun h => ST7 (OL 7 (by decide) h), fun h => ST8 (OL 8 (by decide) h), fun h => ST9 (OL 9 (by decide) h), fun h => ST10 (OL 10 (by decide) h)⟩
        · have hLf : L.getD 4 false = false := getD_false hl (by rw [hs]; decide)
          have hsz : 4 < L.size := by rw [hs]; decide
          have OL : ∀ j, j ≠ 4 → (L.setIfInBounds 4 true).getD j false = true → L.getD j false = true := fun j hj h => by rw [getD_setB _ _ _ _ hsz, if_neg hj] at h; exact h
          have hN : ((L.setIfInBounds 4 true).getD 2 false).toNat + ((L.setIfInBounds 4 true).getD 6 false).toNat + ((L.setIfInBounds 4 true).getD 8 false).toNat = (L.getD 2 false).toNat + (L.getD 6 false).toNat + (L.getD 8 false).toNat := by
            rw [getD_setB _ _ _ _ hsz, getD_setB _ _ _ _ hsz, getD_setB _ _ _ _ hsz, if_neg (by decide), if_neg (by decide), if_neg (by decide)]
          have d3 := hd _ rfl ⟨3, .data⟩ (by simp) rfl
          obtain ⟨i2, hi2, rfl⟩ := p3 d3
          obtain ⟨g2, rc, e2, c2, -, -, -, -, -⟩ := hG.row hi2
          have ST0 := p0
          have ST1 := p1
          have ST2 := p2
          have ST3 := p3
          have ST4 := p4
          have ST5 := p5
          have ST6 := p6
          have ST7 := p7
          have ST8 := p8
          have ST9 := p9
          have ST10 := p10
          refine wpOp_run rfl rfl fun K hK => ?_
          clear hd hs hi hl
          go_simp
          refine hK _ _ ⟨_, _, _, _, _, _, _, _, _, _, _, rfl, by rw [hN]; exact hG, fun h => ST0 (OL 0 (by decide) h), fun h => ST1 (OL 1 (by decide) h), fun h => ST2 (OL 2 (by decide) h), fun h => ST3 (OL 3 (by decide) h), fun _ => ⟨i2, g2, rc, hi2, e2, rfl⟩, fun h => ST5 (OL 5 (by decide) h), fun h => ST6 (OL 6 (by decide) h), fun h => ST7 (OL 7 (by decide) h), fun h => ST8 (OL 8 (by decide) h), fun h => ST9 (OL 9 (by decide) h), fun h => ST10 (OL 10 (by decide) h)⟩
        · have hLf : L.getD 5 false = false := getD_false hl (by rw [hs]; decide)
          have hsz : 5 < L.size := by rw [hs]; decide
          have OL : ∀ j, j ≠ 5 → (L.setIfInBounds 5 true).getD j false = true → L.getD j false = true := fun j hj h => by rw [getD_setB _ _ _ _ hsz, if_neg hj] at h; exact h
          have hN : ((L.setIfInBounds 5 true).getD 2 false).toNat + ((L.setIfInBounds 5 true).getD 6 false).toNat + ((L.setIfInBounds 5 true).getD 8 false).toNat = (L.getD 2 false).toNat + (L.getD 6 false).toNat + (L.getD 8 false).toNat := by
            rw [getD_setB _ _ _ _ hsz, getD_setB _ _ _ _ hsz, getD_setB _ _ _ _ hsz, if_neg (by decide), if_neg (by decide), if_neg (by decide)]
          have ST0 := p0
          have ST1 := p1
          have ST2 := p2
          have ST3 := p3
          have ST4 := p4
          have ST5 := p5
          have ST6 := p6
          have ST7 := p7
          have ST8 := p8
          have ST9 := p9
          have ST10 := p10
          refine wpOp_run rfl rfl fun K hK => ?_
          clear hd hs hi hl
          go_simp
          refine hK _ _ ⟨_, _, _, _, _, _, _, _, _, _, _, rfl, by rw [hN]; exact hG, fun h => ST0 (OL 0 (by decide) h), fun h => ST1 (OL 1 (by decide) h), fun h => ST2 (OL 2 (by decide) h), fun h => ST3 (OL 3 (by decide) h), fun h => ST4 (OL 4 (by decide) h), fun _ => rfl, fun h => ST6 (OL 6 (by decide) h), fun h => ST7 (OL 7 (by decide) h), fun h => ST8 (OL 8 (by decide) h), fun h => ST9 (OL 9 (by decide) h), fun h => ST10 (OL 10 (by decide) h)⟩
        · have hLf : L.getD 6 false = false := getD_false hl (by rw [hs]; decide)
          have hsz : 6 < L.size := by rw [hs]; decide
          have OL : ∀ j, j ≠ 6 → (L.setIfInBounds 6 true).getD j false = true → L.getD j false = true := fun j hj h => by rw [getD_setB _ _ _ _ hsz, if_neg hj] at h; exact h
          have hN : ((L.setIfInBounds 6 true).getD 2 false).toNat + ((L.setIfInBounds 6 true).getD 6 false).toNat + ((L.setIfInBounds 6 true).getD 8 false).toNat = (L.getD 2 false).toNat + (L.getD 6 false).toNat + (L.getD 8 false).toNat + 1 := by
            rw [getD_setB _ _ _ _ hsz, getD_setB _ _ _ _ hsz, getD_setB _ _ _ _ hsz, if_neg (by decide), if_pos rfl, if_neg (by decide), hLf]; simp; try omega
          have d5 := hd _ rfl ⟨5, .data⟩ (by simp) rfl
          obtain rfl := p5 d5
          refine wpOp_run rfl rfl fun K hK => ?_
          clear hd hs hi hl
          go_simp
          refine (pick_c _ _ 4 _ hG.2.1 (by have := three_bools (L.getD 2 false) (L.getD 6 false) (L.getD 8 false); omega) (by omega) (by omega)).mono ?_
          rintro e W2 ⟨k, k0, k1, rfl, hgk, hrk⟩
          have ST0 := p0
          have ST1 := p1
          have ST2 := p2
          have ST3 := p3
          have ST4 := p4
          have ST5 := p5
          have ST6 := p6
          have ST7 := p7
          have ST8 := p8
          have ST9 := p9
          have ST10 := p10
          refine hK _ _ ⟨_, _, _, _, _, _, _, _, _, _, _, rfl, by rw [hN]; exact (hG.call hgk hrk).more (by omega), fun h => ST0 (OL 0 (by decide) h), fun h => ST1 (OL 1 (by decide) h), fun h => ST2 (OL 2 (by decide) h), fun h => ST3 (OL 3 (by decide) h), fun h => ST4 (OL 4 (by decide) h), fun h => ST5 (OL 5 (by decide) h), fun _ => ⟨k, rfl, k0, by omega⟩, fun h => ST7 (OL 7 (by decide) h), fun h => ST8 (OL 8 (by decide) h), fun h => ST9 (OL 9 (by decide) h), fun h => ST10 (OL 10 (by decide) h)⟩
        · have hLf : L.getD 7 false = false := getD_false hl (by rw [hs]; decide)
          have hsz : 7 < L.size := by rw [hs]; decide
          have OL : ∀ j, j ≠ 7 → (L.setIfInBounds 7 true).getD j false = true → L.getD j false = true := fun j hj h => by rw [getD_setB _ _ _ _ hsz, if_neg hj] at h; exact h
          have hN : ((L.setIfInBounds 7 true).getD 2 false).toNat + ((L.setIfInBounds 7 true).getD 6 false).toNat + ((L.setIfInBounds 7 true).getD 8 false).toNat = (L.getD 2 false).toNat + (L.getD 6 false).toNat + (L.getD 8 false).toNat := by
            rw [getD_setB _ _ _ _ hsz, getD_setB _ _ _ _ hsz, getD_setB _ _ _ _ hsz, if_neg (by decide), if_neg (by decide), if_neg (by decide)]
          have ST0 := p0
          have ST1 := p1
          have ST2 := p2
          have ST3 := p3
          have ST4 := p4
          have ST5 := p5
          have ST6 := p6
          have ST7 := p7
          have ST8 := p8
          have ST9 := p9
          have ST10 := p10
          refine wpOp_run rfl rfl fun K hK => ?_
          clear hd hs hi hl
          go_simp
          refine hK _ _ ⟨_, _, _, _, _, _, _, _, _, _, _, rfl, by rw [hN]; exact hG, fun h => ST0 (OL 0 (by decide) h), fun h => ST1 (OL 1 (by decide) h), fun h => ST2 (OL 2 (by decide) h), fun h => ST3 (OL 3 (by decide) h), fun h => ST4 (OL 4 (by decide) h), fun h => ST5 (OL 5 (by decide) h), fun h => ST6 (OL 6 (by decide) h), fun _ => rfl, fun h => ST8 (OL 8 (by decide) h), fun h => ST9 (OL 9 (by decide) h), fun h => ST10 (OL 10 (by decide) h)⟩
        · have hLf : L.getD 8 false = false := getD_false hl (by rw [hs]; decide)
          have hsz : 8 < L.size := by rw [hs]; decide
          have OL : ∀ j, j ≠ 8 → (L.setIfInBounds 8 true).getD j false = true → L.getD j false = true := fun j hj h => by rw [getD_setB _ _ _ _ hsz, if_neg hj] at h; exact h
          have hN : ((L.setIfInBounds 8 true).getD 2 false).toNat + ((L.setIfInBounds 8 true).getD 6 false).toNat + ((L.setIfInBounds 8 true).getD 8 false).toNat = (L.getD 2 false).toNat + (L.getD 6 false).toNat + (L.getD 8 false).toNat + 1 := by
            rw [getD_setB _ _ _ _ hsz, getD_setB _ _ _ _ hsz, getD_setB _ _ _ _ hsz, if_neg (by decide), if_neg (by decide), if_pos rfl, hLf]; simp; try omega
          have d7 := hd _ rfl ⟨7, .data⟩ (by simp) rfl
          obtain rfl := p7 d7
          refine wpOp_run rfl rfl fun K hK => ?_
          clear hd hs hi hl
          go_simp
          refine (l91Entry_c _ _ _ hG.2.1 (by have := three_bools (L.getD 2 false) (L.getD 6 false) (L.getD 8 false); omega)).mono ?_
          rintro e W2 ⟨k, k0, k1, rfl, hgk, hrk⟩
          have ST0 := p0
          have ST1 := p1
          have ST2 := p2
          have ST3 := p3
          have ST4 := p4
          have ST5 := p5
          have ST6 := p6
          have ST7 := p7
          have ST8 := p8
          have ST9 := p9
          have ST10 := p10
          refine hK _ _ ⟨_, _, _, _, _, _, _, _, _, _, _, rfl, by rw [hN]; exact (hG.call hgk hrk).more (by omega), fun h => ST0 (OL 0 (by decide) h), fun h => ST1 (OL 1 (by decide) h), fun h => ST2 (OL 2 (by decide) h), fun h => ST3 (OL 3 (by decide) h), fun h => ST4 (OL 4 (by decide) h), fun h => ST5 (OL 5 (by decide) h), fun h => ST6 (OL 6 (by decide) h), fun h => ST7 (OL 7 (by decide) h), fun _ => ⟨k, rfl⟩, fun h => ST9 (OL 9 (by decide) h), fun h => ST10 (OL 10 (by decide) h)⟩
        · have hLf : L.getD 9 false = false := getD_false hl (by rw [hs]; decide)
          have hsz : 9 < L.size := by rw [hs]; decide
          have OL : ∀ j, j ≠ 9 → (L.setIfInBounds 9 true).getD j false = true → L.getD j false = true := fun j hj h => by rw [getD_setB _ _ _ _ hsz, if_neg hj] at h; exact h
          have hN : ((L.setIfInBounds 9 true).getD 2 false).toNat + ((L.setIfInBounds 9 true).getD 6 false).toNat + ((L.setIfInBounds 9 true).getD 8 false).toNat = (L.getD 2 false).toNat + (L.getD 6 false).toNat + (L.getD 8 false).toNat := by
            rw [getD_setB _ _ _ _ hsz, getD_setB _ _ _ _ hsz, getD_setB _ _ _ _ hsz, if_neg (by decide), if_neg (by decide), if_neg (by decide)]
          have d8 := hd _ rfl ⟨8, .data⟩ (by simp) rfl
          obtain ⟨x, rfl⟩ := p8 d8
          have ST0 := p0
          have ST1 := p1
          have ST2 := p2
          have ST3 := p3
          have ST4 := p4
          have ST5 := p5
          have ST6 := p6
          have ST7 := p7
          have ST8 := p8
          have ST9 := p9
          have ST10 := p10
          refine wpOp_run rfl rfl fun K hK => ?_
          clear hd hs hi hl
          go_simp
          refine hK _ _ ⟨_, _, _, _, _, _, _, _, _, _, _, rfl, by rw [hN]; exact hG, fun h => ST0 (OL 0 (by decide) h), fun h => ST1 (OL 1 (by decide) h), fun h => ST2 (OL 2 (by decide) h), fun h => ST3 (OL 3 (by decide) h), fun h => ST4 (OL 4 (by decide) h), fun h => ST5 (OL 5 (by decide) h), fun h => ST6 (OL 6 (by decide) h), fun h => ST7 (OL 7 (by decide) h), fun h => ST8 (OL 8 (by decide) h), fun _ => ⟨_, rfl⟩, fun h => ST10 (OL 10 (by decide) h)⟩
        · have hLf : L.getD 10 false = false := getD_false hl (by rw [hs]; decide)
          have hsz : 10 < L.size := by rw [hs]; decide
          have OL : ∀ j, j ≠ 10 → (L.setIfInBounds 10 true).getD j false = true → L.getD j false = true := fun j hj h => by rw [getD_setB _ _ _ _ hsz, if_neg hj] at h; exact h
          have hN : ((L.setIfInBounds 10 true).getD 2 false).toNat + ((L.setIfInBounds 10 true).getD 6 false).toNat + ((L.setIfInBounds 10 true).getD 8 false).toNat = (L.getD 2 false).toNat + (L.getD 6 false).toNat + (L.getD 8 false).toNat := by
            rw [getD_setB _ _ _ _ hsz, getD_setB _ _ _ _ hsz, getD_setB _ _ _ _ hsz, if_neg (by decide), if_neg (by decide), if_neg (by decide)]
          have d4 := hd _ rfl ⟨4, .data⟩ (by simp) rfl
          have d6 := hd _ rfl ⟨6, .data⟩ (by simp) rfl
          obtain ⟨i2, g2, rc, hi2, e2, rfl⟩ := p4 d4
          obtain ⟨k, rfl, k0, k1⟩ := p6 d6
          have k2 : k < 4 := by omega
          have ST0 := p0
          have ST1 := p1
          have ST2 := p2
          have ST3 := p3
          have ST4 := p4
          have ST5 := p5
          have ST6 := p6
          have ST7 := p7
          have ST8 := p8
          have ST9 := p9
          have ST10 := p10
          refine wpOp_run rfl rfl fun K hK => ?_
          clear hd hs hi hl
          go_simp
          refine hK _ _ ⟨_, _, _, _, _, _, _, _, _, _, _, rfl, by rw [hN]; exact hG, fun h => ST0 (OL 0 (by decide) h), fun h => ST1 (OL 1 (by decide) h), fun h => ST2 (OL 2 (by decide) h), fun h => ST3 (OL 3 (by decide) h), fun h => ST4 (OL 4 (by decide) h), fun h => ST5 (OL 5 (by decide) h), fun h => ST6 (OL 6 (by decide) h), fun h => ST7 (OL 7 (by decide) h), fun h => ST8 (OL 8 (by decide) h), fun h => ST9 (OL 9 (by decide) h), fun _ => ⟨i2, g2, rc, k.toNat, hi2, by omega, e2, rfl⟩⟩
        · have hLf : L.getD 11 false = false := getD_false hl (by rw [hs]; decide)
          have hsz : 11 < L.size := by rw [hs]; decide
          have OL : ∀ j, j ≠ 11 → (L.setIfInBounds 11 true).getD j false = true → L.getD j false = true := fun j hj h => by rw [getD_setB _ _ _ _ hsz, if_neg hj] at h; exact h
          have hN : ((L.setIfInBounds 11 true).getD 2 false).toNat + ((L.setIfInBounds 11 true).getD 6 false).toNat + ((L.setIfInBounds 11 true).getD 8 false).toNat = (L.getD 2 false).toNat + (L.getD 6 false).toNat + (L.getD 8 false).toNat := by
            rw [getD_setB _ _ _ _ hsz, getD_setB _ _ _ _ hsz, getD_setB _ _ _ _ hsz, if_neg (by decide), if_neg (by decide), if_neg (by decide)]
          have d9 := hd _ rfl ⟨9, .data⟩ (by simp) rfl
          have d10 := hd _ rfl ⟨10, .data⟩ (by simp) rfl
          obtain ⟨x, rfl⟩ := p9 d9
          obtain ⟨i2, g2, rc, j2, hi2, hj2, e2, rfl⟩ := p10 d10
          obtain ⟨g3, rc3, e3, -, -, cc, zz, -, -⟩ := hG.row hi2
          rw [e2] at e3
          simp only [Value.slice.injEq, Option.some.injEq, Addr.mk.injEq, and_true, true_and] at e3
          obtain ⟨rfl, rfl⟩ := e3
          obtain ⟨y, hy⟩ := cc j2 hj2
          have hf := zz j2
          clear cc zz
          have ST0 := p0
          have ST1 := p1
          have ST2 := p2
          have ST3 := p3
          have ST4 := p4
          have ST5 := p5
          have ST6 := p6
          have ST7 := p7
          have ST8 := p8
          have ST9 := p9
          have ST10 := p10
          refine wpOp_run rfl rfl fun K hK => ?_
          clear hd hs hi hl
          go_simp
          refine hK _ _ ⟨_, _, _, _, _, _, _, _, _, _, _, rfl, by rw [hN]; exact hG.put hi2 hj2 e2 _, fun h => ST0 (OL 0 (by decide) h), fun h => ST1 (OL 1 (by decide) h), fun h => ST2 (OL 2 (by decide) h), fun h => ST3 (OL 3 (by decide) h), fun h => ST4 (OL 4 (by decide) h), fun h => ST5 (OL 5 (by decide) h), fun h => ST6 (OL 6 (by decide) h), fun h => ST7 (OL 7 (by decide) h), fun h => ST8 (OL 8 (by decide) h), fun h => ST9 (OL 9 (by decide) h), fun h => ST10 (OL 10 (by decide) h)⟩
      · rintro L act W ⟨u15, u16, u17, u18, u19, u20, u21, u22, u23, u24, u25, rfl, hG, p0, p1, p2, p3, p4, p5, p6, p7, p8, p9, p10⟩ _
        have HE := Lib.hid (hG.more (q' := q + 1 + 9 * (k + 1)) (by have := three_bools (L.getD 2 false) (L.getD 6 false) (L.getD 8 false); omega))
        clear hG p0 p1 p2 p3 p4 p5 p6 p7 p8 p9 p10
        go_wp2_with fail
        go_roundw
        case rel => exact ⟨k + 1, by omega, by go_num, HE.out⟩
        case measure => simp [intOf]; omega
    · have hkn : (k : Int) = n := by omega
      have hk30 : k < 30 := by omega
      go_wp2_with fail
      refine (pick_c br (q + 1 + 9 * k) 12 _ HK.out.2.1 (by omega) (by omega) (by omega)).mono ?_
      rintro e w3 ⟨m, m0, m1, rfl, hg3, hr3⟩
      have HB := Lib.hid (HK.out.call hg3 hr3)
      clear hg3 hr3
      go_wp2_with fail
      refine (pick_c br (q + 1 + 9 * k + 1) 24 _ HB.out.2.1 (by omega) (by omega) (by omega)).mono ?_
      rintro e w4 ⟨c, cc0, cc1, rfl, hg4, hr4⟩
      have HC := Lib.hid ((HB.out.call hg4 hr4).more (q' := q + 300) (by omega))
      clear hg4 hr4 hkn HK HB HA2
      have FIN : ∀ (W : World) (Q : Nat) (v : Value) (ls : List (List Int)), Q ≤ q + 500 → w.grownBy W (some br) → Rdr W br Q → hi ≤ W.heap.size → OwnM W w.heap.size hi v ls → ls.length ≤ 12 → (∀ i, i < ls.length → (ls.getD i []).length ≤ 4) → DrawnM w br (q + 500) (.returned v) W :=
        fun W Q v ls hQ hg hr hh ho h1 h2 => ⟨v, ls, rfl, ho.mono hh, h1, h2, hg, hr.mono hQ⟩
      have HF := Lib.hid FIN
      clear FIN
      have m12 : m < 12 := m1
      obtain ⟨g2, rc, hrow, c2, z2, -, -, -, -⟩ := HC.out.row (i := m.toNat) (by omega)
      by_cases hc0 : c = 0
      · subst hc0
        clear c2 z2
        have HRow := Lib.hid hrow
        clear hrow
        go_wp2_with fail
        refine wp_region_inv (by kernel_rfl) (InvD10 (.pointer (some ⟨br, 0, none⟩)) (.slice (some ⟨g, 0, none⟩) 12 cp) w br w.heap.size hi g cp g2 rc vs (q + 300) n m (.int .i64 n) (.slice (some ⟨g, 0, none⟩) 12 cp) (.pointer (some ⟨br, 0, none⟩)) (.int .i64 n) (.int .i64 n) (.int .i64 n) (.bool false) u13 u14 u15 u16 u17 u18 u19 u20 u21 u22 u23 u24 u25 (.pointer (some ⟨br, 0, none⟩)) (.int .i64 m) (.pointer (some ⟨br, 0, none⟩)) (.int .i64 0) (.bool true) (.bool true) undef undef undef undef undef undef undef undef undef undef undef undef undef undef undef undef undef undef) (by kernel_rfl) ?_ ?_ ?_
        · exact ⟨_, _, _, _, _, _, _, _, _, _, _, _, rfl, HC.out.drew.more (by omega), by simp, by simp, by simp, by simp, by simp, by simp, by simp, by simp, by simp, by simp, by simp, by simp⟩
        · have hrow := HRow.out
          have hg2 : g2 < hi := by
            obtain ⟨g3, rc3, e3, -, -, -, -, -, h9⟩ := HC.out.row (i := m.toNat) (by omega)
            rw [hrow] at e3
            simp only [Value.slice.injEq, Option.some.injEq, Addr.mk.injEq, and_true, true_and] at e3
            rw [e3.1]; exact h9
          rintro L act W i hs ⟨u32, u33, u34, u35, u36, u37, u38, u39, u40, u41, u42, u43, rfl, hG, p0, p1, p2, p3, p4, p5, p6, p7, p8, p9, p10, p11⟩ hi hl hd
          have hi' : i < 13 := hi
          have hc' : i = 0 ∨ i = 1 ∨ i = 2 ∨ i = 3 ∨ i = 4 ∨ i = 5 ∨ i = 6 ∨ i = 7 ∨ i = 8 ∨ i = 9 ∨ i = 10 ∨ i = 11 ∨ i = 12 := by omega
          rcases hc' with rfl | rfl | rfl | rfl | rfl | rfl | rfl | rfl | rfl | rfl | rfl | rfl | rfl
          · have hLf : L.getD 0 false = false := getD_false hl (by rw [hs]; decide)
            have hsz : 0 < L.size := by rw [hs]; decide
            have OL : ∀ j, j ≠ 0 → (L.setIfInBounds 0 true).getD j false = true → L.getD j false = true := fun j hj h => by rw [getD_setB _ _ _ _ hsz, if_neg hj] at h; exact h
            have hN : ((L.setIfInBounds 0 true).getD 5 false).toNat + ((L.setIfInBounds 0 true).getD 8 false).toNat = (L.getD 5 false).toNat + (L.getD 8 false).toNat := by
              rw [getD_setB _ _ _ _ hsz, getD_setB _ _ _ _ hsz, if_neg (by decide), if_neg (by decide)]
            have ST0 := p0
            have ST1 := p1
            have ST2 := p2
            have ST3 := p3
            have ST4 := p4
            have ST5 := p5
            have ST6 := p6
            have ST7 := p7
            have ST8 := p8
            have ST9 := p9
            have ST10 := p10
            have ST11 := p11
            refine wpOp_run rfl rfl fun K hK => ?_
            clear hd hs hi hl
            go_simp
            refine hK _ _ ⟨_, _, _, _, _, _, _, _, _, _, _, _, rfl, by rw [hN]; exact hG, fun _ => rfl, fun h => ST1 (OL 1 (by decide) h), fun h => ST2 (OL 2 (by decide) h), fun h => ST3 (OL 3 (by decide) h), fun h => ST4 (OL 4 (by decide) h), fun h => ST5 (OL 5 (by decide) h), fun h => ST6 (OL 6 (by decide) h), fun h => ST7 (OL 7 (by decide) h), fun h => ST8 (OL 8 (by decide) h), fun h => ST9 (OL 9 (by decide) h), fun h => ST10 (OL 10 (by decide) h), fun h => ST11 (OL 11 (by decide) h)⟩
          · have hLf : L.getD 1 false = false := getD_false hl (by rw [hs]; decide)
            have hsz : 1 < L.size := by rw [hs]; decide
            have OL : ∀ j, j ≠ 1 → (L.setIfInBounds 1 true).getD j false = true → L.getD j false = true := fun j hj h => by rw [getD_setB _ _ _ _ hsz, if_neg hj] at h; exact h
            have hN : ((L.setIfInBounds 1 true).getD 5 false).toNat + ((L.setIfInBounds 1 true).getD 8 false).toNat = (L.getD 5 false).toNat + (L.getD 8 false).toNat := by
              rw [getD_setB _ _ _ _ hsz, getD_setB _ _ _ _ hsz, if_neg (by decide), if_neg (by decide)]
            have ST0 := p0
            have ST1 := p1
            have ST2 := p2
            have ST3 := p3
            have ST4 := p4
            have ST5 := p5
            have ST6 := p6
            have ST7 := p7
            have ST8 := p8
            have ST9 := p9
            have ST10 := p10
            have ST11 := p11
            refine wpOp_run rfl rfl fun K hK => ?_
            clear hd hs hi hl
            go_simp
            refine hK _ _ ⟨_, _, _, _, _, _, _, _, _, _, _, _, rfl, by rw [hN]; exact hG, fun h => ST0 (OL 0 (by decide) h), fun _ => rfl, fun h => ST2 (OL 2 (by decide) h), fun h => ST3 (OL 3 (by decide) h), fun h => ST4 (OL 4 (by decide) h), fun h => ST5 (OL 5 (by decide) h), fun h => ST6 (OL 6 (by decide) h), fun h => ST7 (OL 7 (by decide) h), fun h => ST8 (OL 8 (by decide) h), fun h => ST9 (OL 9 (by decide) h), fun h => ST10 (OL 10 (by decide) h), fun h => ST11 (OL 11 (by decide) h)⟩
          · have hLf : L.getD 2 false = false := getD_false hl (by rw [hs]; decide)
            have hsz : 2 < L.size := by rw [hs]; decide
            have OL : ∀ j, j ≠ 2 → (L.setIfInBounds 2 true).getD j false = true → L.getD j false = true := fun j hj h => by rw [getD_setB _ _ _ _ hsz, if_neg hj] at h; exact h
            have hN : ((L.setIfInBounds 2 true).getD 5 false).toNat + ((L.setIfInBounds 2 true).getD 8 false).toNat = (L.getD 5 false).toNat + (L.getD 8 false).toNat := by
              rw [getD_setB _ _ _ _ hsz, getD_setB _ _ _ _ hsz, if_neg (by decide), if_neg (by decide)]
            have d0 := hd _ rfl ⟨0, .data⟩ (by simp) rfl
            have d1 := hd _ rfl ⟨1, .data⟩ (by simp) rfl
            obtain rfl := p0 d0
            obtain rfl := p1 d1
            have ST0 := p0
            have ST1 := p1
            have ST2 := p2
            have ST3 := p3
            have ST4 := p4
            have ST5 := p5
            have ST6 := p6
            have ST7 := p7
            have ST8 := p8
            have ST9 := p9
            have ST10 := p10
            have ST11 := p11
            refine wpOp_run rfl rfl fun K hK => ?_
            clear hd hs hi hl
            go_simp
            refine hK _ _ ⟨_, _, _, _, _, _, _, _, _, _, _, _, rfl, by rw [hN]; exact hG, fun h => ST0 (OL 0 (by decide) h), fun h => ST1 (OL 1 (by decide) h), fun _ => rfl, fun h => ST3 (OL 3 (by decide) h), fun h => ST4 (OL 4 (by decide) h), fun h => ST5 (OL 5 (by decide) h), fun h => ST6 (OL 6 (by decide) h), fun h => ST7 (OL 7 (by decide) h), fun h => ST8 (OL 8 (by decide) h), fun h => ST9 (OL 9 (by decide) h), fun h => ST10 (OL 10 (by decide) h), fun h => ST11 (OL 11 (by decide) h)⟩
          · have hLf : L.getD 3 false = false := getD_false hl (by rw [hs]; decide)
            have hsz : 3 < L.size := by rw [hs]; decide
            have OL : ∀ j, j ≠ 3 → (L.setIfInBounds 3 true).getD j false = true → L.getD j false = true := fun j hj h => by rw [getD_setB _ _ _ _ hsz, if_neg hj] at h; exact h
            have hN : ((L.setIfInBounds 3 true).getD 5 false).toNat + ((L.setIfInBounds 3 true).getD 8 false).toNat = (L.getD 5 false).toNat + (L.getD 8 false).toNat := by
              rw [getD_setB _ _ _ _ hsz, getD_setB _ _ _ _ hsz, if_neg (by decide), if_neg (by decide)]
            have d2 := hd _ rfl ⟨2, .data⟩ (by simp) rfl
            obtain rfl := p2 d2
            obtain ⟨g3, rc3, e3, c2, -, -, -, -, -⟩ := hG.row (i := m.toNat) (by omega)
            rw [hrow] at e3
            simp only [Value.slice.injEq, Option.some.injEq, Addr.mk.injEq, and_true, true_and] at e3
            obtain ⟨rfl, rfl⟩ := e3
            have ST0 := p0
            have ST1 := p1
            have ST2 := p2
            have ST3 := p3
            have ST4 := p4
            have ST5 := p5
            have ST6 := p6
            have ST7 := p7
            have ST8 := p8
            have ST9 := p9
            have ST10 := p10
            have ST11 := p11
            refine wpOp_run rfl rfl fun K hK => ?_
            clear hd hs hi hl
            go_simp
            refine hK _ _ ⟨_, _, _, _, _, _, _, _, _, _, _, _, rfl, by rw [hN]; exact hG, fun h => ST0 (OL 0 (by decide) h), fun h => ST1 (OL 1 (by decide) h), fun h => ST2 (OL 2 (by decide) h), fun _ => rfl, fun h => ST4 (OL 4 (by decide) h), fun h => ST5 (OL 5 (by decide) h), fun h => ST6 (OL 6 (by decide) h), fun h => ST7 (OL 7 (by decide) h), fun h => ST8 (OL 8 (by decide) h), fun h => ST9 (OL 9 (by decide) h), fun h => ST10 (OL 10 (by decide) h), fun h => ST11 (OL 11 (by decide) h)⟩
          · have hLf : L.getD 4 false = false := getD_false hl (by rw [hs]; decide)
            have hsz : 4 < L.size := by rw [hs]; decide
            have OL : ∀ j, j ≠ 4 → (L.setIfInBounds 4 true).getD j false = true → L.getD j false = true := fun j hj h => by rw [getD_setB _ _ _ _ hsz, if_neg hj] at h; exact h
            have hN : ((L.setIfInBounds 4 true).getD 5 false).toNat + ((L.setIfInBounds 4 true).getD 8 false).toNat = (L.getD 5 false).toNat + (L.getD 8 false).toNat := by
              rw [getD_setB _ _ _ _ hsz, getD_setB _ _ _ _ hsz, if_neg (by decide), if_neg (by decide)]
            have ST0 := p0
            have ST1 := p1
            have ST2 := p2
            have ST3 := p3
            have ST4 := p4
            have ST5 := p5
            have ST6 := p6
            have ST7 := p7
            have ST8 := p8
            have ST9 := p9
            have ST10 := p10
            have ST11 := p11
            refine wpOp_run rfl rfl fun K hK => ?_
            clear hd hs hi hl
            go_simp
            refine hK _ _ ⟨_, _, _, _, _, _, _, _, _, _, _, _, rfl, by rw [hN]; exact hG, fun h => ST0 (OL 0 (by decide) h), fun h => ST1 (OL 1 (by decide) h), fun h => ST2 (OL 2 (by decide) h), fun h => ST3 (OL 3 (by decide) h), fun _ => rfl, fun h => ST5 (OL 5 (by decide) h), fun h => ST6 (OL 6 (by decide) h), fun h => ST7 (OL 7 (by decide) h), fun h => ST8 (OL 8 (by decide) h), fun h => ST9 (OL 9 (by decide) h), fun h => ST10 (OL 10 (by decide) h), fun h => ST11 (OL 11 (by decide) h)⟩
          · have hLf : L.getD 5 false = false := getD_false hl (by rw [hs]; decide)
            have hsz : 5 < L.size := by rw [hs]; decide
            have OL : ∀ j, j ≠ 5 → (L.setIfInBounds 5 true).getD j false = true → L.getD j false = true := fun j hj h => by rw [getD_setB _ _ _ _ hsz, if_neg hj] at h; exact h
            have hN : ((L.setIfInBounds 5 true).getD 5 false).toNat + ((L.setIfInBounds 5 true).getD 8 false).toNat = (L.getD 5 false).toNat + (L.getD 8 false).toNat + 1 := by
              rw [getD_setB _ _ _ _ hsz, getD_setB _ _ _ _ hsz, if_pos rfl, if_neg (by decide), hLf]; simp; try omega
            have d4 := hd _ rfl ⟨4, .data⟩ (by simp) rfl
            obtain rfl := p4 d4
            refine wpOp_run rfl rfl fun K hK => ?_
            clear hd hs hi hl
            go_simp
            refine (pick_c _ _ 4 _ hG.2.1 (by have := two_bools (L.getD 5 false) (L.getD 8 false); omega) (by omega) (by omega)).mono ?_
            rintro e W2 ⟨k3, k30, k31, rfl, hgk, hrk⟩
            have ST0 := p0
            have ST1 := p1
            have ST2 := p2
            have ST3 := p3
            have ST4 := p4
            have ST5 := p5
            have ST6 := fun h => (p6 h).kept hgk
            have ST7 := p7
            have ST8 := p8
            have ST9 := fun h => (p9 h).kept hgk
            have ST10 := p10
            have ST11 := p11
            refine hK _ _ ⟨_, _, _, _, _, _, _, _, _, _, _, _, rfl, by rw [hN]; exact (hG.call hgk hrk).more (by omega), fun h => ST0 (OL 0 (by decide) h), fun h => ST1 (OL 1 (by decide) h), fun h => ST2 (OL 2 (by decide) h), fun h => ST3 (OL 3 (by decide) h), fun h => ST4 (OL 4 (by decide) h), fun _ => ⟨k3, rfl, k30, by omega⟩, fun h => ST6 (OL 6 (by decide) h), fun h => ST7 (OL 7 (by decide) h), fun h => ST8 (OL 8 (by decide) h), fun h => ST9 (OL 9 (by decide) h), fun h => ST10 (OL 10 (by decide) h), fun h => ST11 (OL 11 (by decide) h)⟩
          · have hLf : L.getD 6 false = false := getD_false hl (by rw [hs]; decide)
            have hsz : 6 < L.size := by rw [hs]; decide
            have OL : ∀ j, j ≠ 6 → (L.setIfInBounds 6 true).getD j false = true → L.getD j false = true := fun j hj h => by rw [getD_setB _ _ _ _ hsz, if_neg hj] at h; exact h
            have hN : ((L.setIfInBounds 6 true).getD 5 false).toNat + ((L.setIfInBounds 6 true).getD 8 false).toNat = (L.getD 5 false).toNat + (L.getD 8 false).toNat := by
              rw [getD_setB _ _ _ _ hsz, getD_setB _ _ _ _ hsz, if_neg (by decide), if_neg (by decide)]
            have ST0 := p0
            have ST1 := p1
            have ST2 := p2
            have ST3 := p3
            have ST4 := p4
            have ST5 := p5
            have ST6 := fun (o : Obj) h => (p6 h).kept (World.grownBy_alloc W o _)
            have ST7 := p7
            have ST8 := p8
            have ST9 := fun (o : Obj) h => (p9 h).kept (World.grownBy_alloc W o _)
            have ST10 := p10
            have ST11 := p11
            refine wpOp_run rfl rfl fun K hK => ?_
            clear hd hs hi hl
            go_simp
            refine hK _ _ ⟨_, _, _, _, _, _, _, _, _, _, _, _, rfl, by rw [hN]; exact hG.alloc _, fun h => ST0 (OL 0 (by decide) h), fun h => ST1 (OL 1 (by decide) h), fun h => ST2 (OL 2 (by decide) h), fun h => ST3 (OL 3 (by decide) h), fun h => ST4 (OL 4 (by decide) h), fun h => ST5 (OL 5 (by decide) h), fun _ => litNew _ _ W hG.2.1.lt hG.2.2.2.2.2.1, fun h => ST7 (OL 7 (by decide) h), fun h => ST8 (OL 8 (by decide) h), fun h => ST9 _ (OL 9 (by decide) h), fun h => ST10 (OL 10 (by decide) h), fun h => ST11 (OL 11 (by decide) h)⟩
          · have hLf : L.getD 7 false = false := getD_false hl (by rw [hs]; decide)
            have hsz : 7 < L.size := by rw [hs]; decide
            have OL : ∀ j, j ≠ 7 → (L.setIfInBounds 7 true).getD j false = true → L.getD j false = true := fun j hj h => by rw [getD_setB _ _ _ _ hsz, if_neg hj] at h; exact h
            have hN : ((L.setIfInBounds 7 true).getD 5 false).toNat + ((L.setIfInBounds 7 true).getD 8 false).toNat = (L.getD 5 false).toNat + (L.getD 8 false).toNat := by
              rw [getD_setB _ _ _ _ hsz, getD_setB _ _ _ _ hsz, if_neg (by decide), if_neg (by decide)]
            have ST0 := p0
            have ST1 := p1
            have ST2 := p2
            have ST3 := p3
            have ST4 := p4
            have ST5 := p5
            have ST6 := p6
            have ST7 := p7
            have ST8 := p8
            have ST9 := p9
            have ST10 := p10
            have ST11 := p11
            refine wpOp_run rfl rfl fun K hK => ?_
            clear hd hs hi hl
            go_simp
            refine hK _ _ ⟨_, _, _, _, _, _, _, _, _, _, _, _, rfl, by rw [hN]; exact hG, fun h => ST0 (OL 0 (by decide) h), fun h => ST1 (OL 1 (by decide) h), fun h => ST2 (OL 2 (by decide) h), fun h => ST3 (OL 3 (by decide) h), fun h => ST4 (OL 4 (by decide) h), fun h => ST5 (OL 5 (by decide) h), fun h => ST6 (OL 6 (by decide) h), fun _ => rfl, fun h => ST8 (OL 8 (by decide) h), fun h => ST9 (OL 9 (by decide) h), fun h => ST10 (OL 10 (by decide) h), fun h => ST11 (OL 11 (by decide) h)⟩
          · have hLf : L.getD 8 false = false := getD_false hl (by rw [hs]; decide)
            have hsz : 8 < L.size := by rw [hs]; decide
            have OL : ∀ j, j ≠ 8 → (L.setIfInBounds 8 true).getD j false = true → L.getD j false = true := fun j hj h => by rw [getD_setB _ _ _ _ hsz, if_neg hj] at h; exact h
            have hN : ((L.setIfInBounds 8 true).getD 5 false).toNat + ((L.setIfInBounds 8 true).getD 8 false).toNat = (L.getD 5 false).toNat + (L.getD 8 false).toNat + 1 := by
              rw [getD_setB _ _ _ _ hsz, getD_setB _ _ _ _ hsz, if_neg (by decide), if_pos rfl, hLf]; simp; try omega
            have d7 := hd _ rfl ⟨7, .data⟩ (by simp) rfl
            obtain rfl := p7 d7
            refine wpOp_run rfl rfl fun K hK => ?_
            clear hd hs hi hl
            go_simp
            refine (pick_c _ _ 2 _ hG.2.1 (by have := two_bools (L.getD 5 false) (L.getD 8 false); omega) (by omega) (by omega)).mono ?_
            rintro e W2 ⟨k3, k30, k31, rfl, hgk, hrk⟩
            have ST0 := p0
            have ST1 := p1
            have ST2 := p2
            have ST3 := p3
            have ST4 := p4
            have ST5 := p5
            have ST6 := fun h => (p6 h).kept hgk
            have ST7 := p7
            have ST8 := p8
            have ST9 := fun h => (p9 h).kept hgk
            have ST10 := p10
            have ST11 := p11
            refine hK _ _ ⟨_, _, _, _, _, _, _, _, _, _, _, _, rfl, by rw [hN]; exact (hG.call hgk hrk).more (by omega), fun h => ST0 (OL 0 (by decide) h), fun h => ST1 (OL 1 (by decide) h), fun h => ST2 (OL 2 (by decide) h), fun h => ST3 (OL 3 (by decide) h), fun h => ST4 (OL 4 (by decide) h), fun h => ST5 (OL 5 (by decide) h), fun h => ST6 (OL 6 (by decide) h), fun h => ST7 (OL 7 (by decide) h), fun _ => ⟨k3, rfl, k30, by omega⟩, fun h => ST9 (OL 9 (by decide) h), fun h => ST10 (OL 10 (by decide) h), fun h => ST11 (OL 11 (by decide) h)⟩
          · have hLf : L.getD 9 false = false := getD_false hl (by rw [hs]; decide)
            have hsz : 9 < L.size := by rw [hs]; decide
            have OL : ∀ j, j ≠ 9 → (L.setIfInBounds 9 true).getD j false = true → L.getD j false = true := fun j hj h => by rw [getD_setB _ _ _ _ hsz, if_neg hj] at h; exact h
            have hN : ((L.setIfInBounds 9 true).getD 5 false).toNat + ((L.setIfInBounds 9 true).getD 8 false).toNat = (L.getD 5 false).toNat + (L.getD 8 false).toNat := by
              rw [getD_setB _ _ _ _ hsz, getD_setB _ _ _ _ hsz, if_neg (by decide), if_neg (by decide)]
            have d6 := hd _ rfl ⟨6, .data⟩ (by simp) rfl
            have d8 := hd _ rfl ⟨8, .data⟩ (by simp) rfl
            obtain ⟨b, rfl, hb, hb2, hcs⟩ := p6 d6
            obtain ⟨k3, rfl, k30, k31⟩ := p8 d8
            obtain ⟨v, hcell⟩ := hcs k3.toNat (by omega)
            have k32 : k3 < 2 := by omega
            have ST0 := p0
            have ST1 := p1
            have ST2 := p2
            have ST3 := p3
            have ST4 := p4
            have ST5 := p5
            have ST6 := p6
            have ST7 := p7
            have ST8 := p8
            have ST9 := p9
            have ST10 := p10
            have ST11 := p11
            refine wpOp_run rfl rfl fun K hK => ?_
            clear hd hs hi hl
            go_simp
            refine hK _ _ ⟨_, _, _, _, _, _, _, _, _, _, _, _, rfl, by rw [hN]; exact hG, fun h => ST0 (OL 0 (by decide) h), fun h => ST1 (OL 1 (by decide) h), fun h => ST2 (OL 2 (by decide) h), fun h => ST3 (OL 3 (by decide) h), fun h => ST4 (OL 4 (by decide) h), fun h => ST5 (OL 5 (by decide) h), fun h => ST6 (OL 6 (by decide) h), fun h => ST7 (OL 7 (by decide) h), fun h => ST8 (OL 8 (by decide) h), fun _ => ⟨b, k3.toNat, v, rfl, hb, hb2, hcell⟩, fun h => ST10 (OL 10 (by decide) h), fun h => ST11 (OL 11 (by decide) h)⟩
          · have hLf : L.getD 10 false = false := getD_false hl (by rw [hs]; decide)
            have hsz : 10 < L.size := by rw [hs]; decide
            have OL : ∀ j, j ≠ 10 → (L.setIfInBounds 10 true).getD j false = true → L.getD j false = true := fun j hj h => by rw [getD_setB _ _ _ _ hsz, if_neg hj] at h; exact h
            have hN : ((L.setIfInBounds 10 true).getD 5 false).toNat + ((L.setIfInBounds 10 true).getD 8 false).toNat = (L.getD 5 false).toNat + (L.getD 8 false).toNat := by
              rw [getD_setB _ _ _ _ hsz, getD_setB _ _ _ _ hsz, if_neg (by decide), if_neg (by decide)]
            have d9 := hd _ rfl ⟨9, .data⟩ (by simp) rfl
            obtain ⟨b, i, v, rfl, hb, hb2, hcell⟩ := p9 d9
            have ST0 := p0
            have ST1 := p1
            have ST2 := p2
            have ST3 := p3
            have ST4 := p4
            have ST5 := p5
            have ST6 := p6
            have ST7 := p7
            have ST8 := p8
            have ST9 := p9
            have ST10 := p10
            have ST11 := p11
            refine wpOp_run rfl rfl fun K hK => ?_
            clear hd hs hi hl
            go_simp
            refine hK _ _ ⟨_, _, _, _, _, _, _, _, _, _, _, _, rfl, by rw [hN]; exact hG, fun h => ST0 (OL 0 (by decide) h), fun h => ST1 (OL 1 (by decide) h), fun h => ST2 (OL 2 (by decide) h), fun h => ST3 (OL 3 (by decide) h), fun h => ST4 (OL 4 (by decide) h), fun h => ST5 (OL 5 (by decide) h), fun h => ST6 (OL 6 (by decide) h), fun h => ST7 (OL 7 (by decide) h), fun h => ST8 (OL 8 (by decide) h), fun h => ST9 (OL 9 (by decide) h), fun _ => ⟨v, rfl⟩, fun h => ST11 (OL 11 (by decide) h)⟩
          · have hLf : L.getD 11 false = false := getD_false hl (by rw [hs]; decide)
            have hsz : 11 < L.size := by rw [hs]; decide
            have OL : ∀ j, j ≠ 11 → (L.setIfInBounds 11 true).getD j false = true → L.getD j false = true := fun j hj h => by rw [getD_setB _ _ _ _ hsz, if_neg hj] at h; exact h
            have hN : ((L.setIfInBounds 11 true).getD 5 false).toNat + ((L.setIfInBounds 11 true).getD 8 false).toNat = (L.getD 5 false).toNat + (L.getD 8 false).toNat := by
              rw [getD_setB _ _ _ _ hsz, getD_setB _ _ _ _ hsz, if_neg (by decide), if_neg (by decide)]
            have d3 := hd _ rfl ⟨3, .data⟩ (by simp) rfl
            have d5 := hd _ rfl ⟨5, .data⟩ (by simp) rfl
            obtain rfl := p3 d3
            obtain ⟨k3, rfl, k30, k31⟩ := p5 d5
            have k32 : k3 < 4 := by omega
            have ST0 := p0
            have ST1 := p1
            have ST2 := p2
            have ST3 := p3
            have ST4 := p4
            have ST5 := p5
            have ST6 := p6
            have ST7 := p7
            have ST8 := p8
            have ST9 := p9
            have ST10 := p10
            have ST11 := p11
            refine wpOp_run rfl rfl fun K hK => ?_
            clear hd hs hi hl
            go_simp
            refine hK _ _ ⟨_, _, _, _, _, _, _, _, _, _, _, _, rfl, by rw [hN]; exact hG, fun h => ST0 (OL 0 (by decide) h), fun h => ST1 (OL 1 (by decide) h), fun h => ST2 (OL 2 (by decide) h), fun h => ST3 (OL 3 (by decide) h), fun h => ST4 (OL 4 (by decide) h), fun h => ST5 (OL 5 (by decide) h), fun h => ST6 (OL 6 (by decide) h), fun h => ST7 (OL 7 (by decide) h), fun h => ST8 (OL 8 (by decide) h), fun h => ST9 (OL 9 (by decide) h), fun h => ST10 (OL 10 (by decide) h), fun _ => ⟨k3.toNat, by omega, rfl⟩⟩
          · have hLf : L.getD 12 false = false := getD_false hl (by rw [hs]; decide)
            have hsz : 12 < L.size := by rw [hs]; decide
            have OL : ∀ j, j ≠ 12 → (L.setIfInBounds 12 true).getD j false = true → L.getD j false = true := fun j hj h => by rw [getD_setB _ _ _ _ hsz, if_neg hj] at h; exact h
            have hN : ((L.setIfInBounds 12 true).getD 5 false).toNat + ((L.setIfInBounds 12 true).getD 8 false).toNat = (L.getD 5 false).toNat + (L.getD 8 false).toNat := by
              rw [getD_setB _ _ _ _ hsz, getD_setB _ _ _ _ hsz, if_neg (by decide), if_neg (by decide)]
            have d10 := hd _ rfl ⟨10, .data⟩ (by simp) rfl
            have d11 := hd _ rfl ⟨11, .data⟩ (by simp) rfl
            obtain ⟨x, rfl⟩ := p10 d10
            obtain ⟨j2, hj2, rfl⟩ := p11 d11
            obtain ⟨g3, rc3, e3, -, -, cc, zz, -, -⟩ := hG.row (i := m.toNat) (by omega)
            rw [hrow] at e3
            simp only [Value.slice.injEq, Option.some.injEq, Addr.mk.injEq, and_true, true_and] at e3
            obtain ⟨rfl, rfl⟩ := e3
            obtain ⟨y, hy⟩ := cc j2 hj2
            have hf := zz j2
            clear cc zz
            have ST0 := p0
            have ST1 := p1
            have ST2 := p2
            have ST3 := p3
            have ST4 := p4
            have ST5 := p5
            have ST6 := fun (jj : Nat) (x : Value) h => (p6 h).set hg2 jj x
            have ST7 := p7
            have ST8 := p8
            have ST9 := fun (jj : Nat) (x : Value) h => (p9 h).set hg2 jj x
            have ST10 := p10
            have ST11 := p11
            refine wpOp_run rfl rfl fun K hK => ?_
            clear hd hs hi hl
            go_simp
            refine hK _ _ ⟨_, _, _, _, _, _, _, _, _, _, _, _, rfl, by rw [hN]; exact hG.put (i := m.toNat) (by omega) hj2 hrow _, fun h => ST0 (OL 0 (by decide) h), fun h => ST1 (OL 1 (by decide) h), fun h => ST2 (OL 2 (by decide) h), fun h => ST3 (OL 3 (by decide) h), fun h => ST4 (OL 4 (by decide) h), fun h => ST5 (OL 5 (by decide) h), fun h => ST6 _ _ (OL 6 (by decide) h), fun h => ST7 (OL 7 (by decide) h), fun h => ST8 (OL 8 (by decide) h), fun h => ST9 _ _ (OL 9 (by decide) h), fun h => ST10 (OL 10 (by decide) h), fun h => ST11 (OL 11 (by decide) h)⟩
        · rintro L act W ⟨u32, u33, u34, u35, u36, u37, u38, u39, u40, u41, u42, u43, rfl, hG, p0, p1, p2, p3, p4, p5, p6, p7, p8, p9, p10, p11⟩ _
          obtain ⟨ls, o1, o2⟩ := hG.own
          have HE := Lib.hid (HF.out W _ _ ls (by have := two_bools (L.getD 5 false) (L.getD 8 false); omega) hG.1 hG.2.1 hG.2.2.2.2.2.1 o1 (by rw [o2.1]; omega) (fun i hi => by rw [o2.2 i (by rw [o2.1] at hi; exact hi)]; omega))
          clear hG o1 o2 p0 p1 p2 p3 p4 p5 p6 p7 p8 p9 p10 p11
          go_wp2_with fail
          go_ret
          exact HE.out
      · have hc0' : (c == 0) = false := by simpa using hc0
        by_cases hc1 : c = 1
        · subst hc1
          have HRow := Lib.hid hrow
          have hroom := HC.out.room (i := m.toNat) (by omega) hrow
          clear hrow c2 z2
          have c3 : w4.drew.cell? ⟨g, m.toNat, none⟩ = some (.slice (some ⟨g2, 0, none⟩) 4 rc) := by
            obtain ⟨g3, rc3, e3, c3, -, -, -, -, -⟩ := HC.out.drew.row (i := m.toNat) (by omega)
            rw [HRow.out] at e3
            rw [e3]; exact c3
          go_wp2_with fail
          go_region_with ((go_at_call 41; refine (pick_c br (q + 300) 4 _ HC.out.drew.2.1 (by omega) (by omega) (by omega)).mono ?_; rintro e w5 ⟨j, j0, j1, rfl, hgk, hrk⟩; have HD := Lib.hid (HC.out.drew.call hgk hrk); have c5 : w5.cell? ⟨g, m.toNat, none⟩ = some (.slice (some ⟨g2, 0, none⟩) 4 rc) := hgk.cell c3 (by have := HD.out.2.2.2.2.1; have := HC.out.2.2.2.2.1; simp; omega); have z5 : w5.frozen? ⟨g, m.toNat, none⟩ = false := (HD.out.row (i := m.toNat) (by omega)).elim fun _ h => h.elim fun _ h => h.2.2.1; have jr : j ≤ (rc : Int) := by omega))
          all_goals
            obtain ⟨ls2, q1, q2, q3, q4, q5, q6⟩ := HD.out.cutrow (i := m.toNat) (j := j.toNat) (by omega) (by omega) HRow.out
            have HE := Lib.hid (HF.out _ (q + 300 + 1) _ ls2 (by omega) q4 q5 q6 q1 (by omega) (fun i hi => q3 i (by omega)))
            clear q1 q3 q4 q5 q6
            go_wp2_with fail
            go_ret
            exact HE.out
        · have hc1' : (c == 1) = false := by simpa using hc1
          clear hrow c2 z2
          obtain ⟨ls, o1, o2⟩ := HC.out.own
          have e12 : ls.length = 12 := o2.1
          by_cases hc2 : c = 2
          · subst hc2
            have HE := Lib.hid (HF.out w4 _ (.slice (some ⟨g, 0, none⟩) m.toNat cp) (ls.take m.toNat) (by omega) HC.out.1 HC.out.2.1 HC.out.2.2.2.2.2.1 (OwnM.take_ o1 e12.symm (by omega)) (by rw [List.length_take]; omega) (fun i hi => by
              rw [List.length_take] at hi
              rw [List.getD_eq_getElem?_getD, List.getElem?_take, if_pos (by omega), ← List.getD_eq_getElem?_getD, o2.2 i (by omega)]; omega))
            have hcap : m ≤ (cp : Int) := by
              rcases o1.cases with ⟨e, _⟩ | ⟨g', cp', e, _, _, _, h9, _⟩
              · simp at e
              · simp only [Value.slice.injEq, Option.some.injEq, Addr.mk.injEq, and_true] at e
                omega
            clear o1 o2
            go_wp2_with fail
            go_ret
            exact HE.out
          · have hc2' : (c == 2) = false := by simpa using hc2
            have HE := Lib.hid (HF.out w4 _ (.slice (some ⟨g, 0, none⟩) 12 cp) ls (by omega) HC.out.1 HC.out.2.1 HC.out.2.2.2.2.2.1 o1 (by omega) (fun i hi => by rw [o2.2 i (by omega)]; omega))
            clear o1 o2
            go_wp2_with fail
            go_ret
            exact HE.out
end Go.Proofs.Ytjmlfjpocjmnpaa
