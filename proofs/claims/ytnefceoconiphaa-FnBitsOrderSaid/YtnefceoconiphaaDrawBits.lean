/-
  The drawing of a list of frames: a statement whose order is open, by an invariant. No conditions.
-/
import Derived.Test.YtnefceoconiphaaRd
import Derived.Test.YtnefceoconiphaaInv
import Derived.Test.YtnefceoconiphaaSetFns
import Derived.Deep.DeepCutAuto
namespace Go.Proofs.Ytnefceoconiphaa
open Go.RowKit

/-- Block g holds some n numbers that the call itself laid. -/
def NumRow (w : World) (base g n cap : Nat) : Prop := ∃ l : List Int, l.length = n ∧ w.ownsRow base 3 1 (.slice (some ⟨g, 0, none⟩) n cap) n (l.map (Value.int .i64))
theorem NumRow.cell {w : World} {base g n cap : Nat} (h : NumRow w base g n cap) (j : Nat) (hj : j < n) : ∃ x : Int, w.cell? ⟨g, j, none⟩ = some (.int .i64 x) := by
  obtain ⟨l, hl, ho⟩ := h
  have := ho.cellAt j (by omega)
  rw [List.getElem?_map, List.getElem?_eq_getElem (by omega), Option.map_some] at this
  exact ⟨_, this⟩
theorem NumRow.frozen {w : World} {base g n cap : Nat} (h : NumRow w base g n cap) (j : Nat) : w.frozen? ⟨g, j, none⟩ = false := by
  obtain ⟨l, hl, ho⟩ := h
  exact ho.frozenAt j
theorem NumRow.set {w : World} {base g n cap : Nat} (h : NumRow w base g n cap) (j : Nat) (x : Int) : NumRow (w.setCell ⟨g, j, none⟩ (.int .i64 x)) base g n cap := by
  obtain ⟨l, hl, ho⟩ := h
  exact ⟨l.set j x, by simpa using hl, by rw [List.map_set]; exact (ho.stored j _).1⟩
theorem NumRow.kept {w w' : World} {base g n cap : Nat} {r : Option Nat} (h : NumRow w base g n cap) (hg : w.grownBy w' r) (hne : some g ≠ r) : NumRow w' base g n cap := by
  obtain ⟨l, hl, ho⟩ := h
  exact ⟨l, hl, World.ownsRow.kept ho hg (.inr hne)⟩
theorem NumRow.base {w : World} {base g n cap : Nat} (h : NumRow w base g n cap) : base ≤ g := by
  obtain ⟨l, hl, ho⟩ := h
  exact (ho.lt g rfl).1
theorem grown_set {w w' : World} {g : Nat} {r : Option Nat} (h : w.grownBy w' r) (hb : w.heap.size ≤ g) (j : Nat) (x : Value) : w.grownBy (w'.setCell ⟨g, j, none⟩ x) r :=
  ⟨h.os, h.tape, h.output, by simpa [World.setCell] using h.size, fun k hk hne => (Below.heap_setCell w' ⟨g, j, none⟩ x k (by show k ≠ g; omega)).trans (h.block k hk hne)⟩
theorem Rdr.set {w : World} {br q g : Nat} (h : Rdr w br q) (hg : br < g) (j : Nat) (x : Value) : Rdr (w.setCell ⟨g, j, none⟩ x) br q :=
  h.of_blocks fun k hk => Below.heap_setCell w ⟨g, j, none⟩ x k (by show k ≠ g; omega)

theorem toSome {w w' : World} {r : Option Nat} (h : w.grownBy w' none) : w.grownBy w' r := ⟨h.os, h.tape, h.output, h.size, fun k hk _ => h.block k hk (fun e => by cases e)⟩
/-- What stands behind each part of the drawing. -/
def AtD (w2 : World) (br g n cap q : Nat) (w : World) : Prop := w2.grownBy w (some br) ∧ Rdr w br q ∧ NumRow w w2.heap.size g n cap

theorem AtD.alloc {w2 w : World} {br g n cap q : Nat} (h : AtD w2 br g n cap q w) (o : Obj) : AtD w2 br g n cap q (w.alloc o) := ⟨grown_alloc h.1 o, h.2.1.alloc o, h.2.2.kept (World.grownBy_alloc w o none) (by simp)⟩
theorem AtD.drew {w2 w : World} {br g n cap q : Nat} (h : AtD w2 br g n cap q w) : AtD w2 br g n cap q w.drew := ⟨⟨h.1.os, h.1.tape, h.1.output, h.1.size, h.1.block⟩, h.2.1.drew, h.2.2⟩
theorem AtD.more {w2 w : World} {br g n cap q q' : Nat} (h : AtD w2 br g n cap q w) (hq : q ≤ q') : AtD w2 br g n cap q' w := ⟨h.1, h.2.1.mono hq, h.2.2⟩
theorem AtD.call {w2 w w' : World} {br g n cap q : Nat} (h : AtD w2 br g n cap (22 + q) w) (hg : w.grownBy w' (some br)) (hr : Rdr w' br (22 + q + 1)) (hne : br < w2.heap.size) : AtD w2 br g n cap (22 + (q + 1)) w' :=
  ⟨grown_trans h.1 hg, hr, h.2.2.kept hg (fun e => by have := Option.some.inj e; have := h.2.2.base; omega)⟩
theorem AtD.set {w2 w : World} {br g n cap q : Nat} (h : AtD w2 br g n cap q w) (hg : br < g) (j : Nat) (x : Int) : AtD w2 br g n cap q (w.setCell ⟨g, j, none⟩ (.int .i64 x)) := ⟨grown_set h.1 h.2.2.base j _, h.2.1.set hg j _, h.2.2.set j x⟩
theorem AtD.lt {w2 w : World} {br g n cap q : Nat} (h : AtD w2 br g n cap q w) : g < w.heap.size := by
  obtain ⟨_, _, l, hl, ho⟩ := h
  exact (ho.lt g rfl).2
/-- A new row of three numbers, apart from block g. -/
def VArrU (br g : Nat) (u : Value) (w : World) : Prop := ∃ b, u = .slice (some ⟨b, 0, none⟩) 3 3 ∧ b ≠ br ∧ b ≠ g ∧ ∀ i, i < 3 → ∃ v : Int, w.cell? ⟨b, i, none⟩ = some (.int .i64 v)
def VPtrU (br g : Nat) (u : Value) (w : World) : Prop := ∃ (b i : Nat) (v : Int), u = .pointer (some ⟨b, i, none⟩) ∧ b ≠ br ∧ b ≠ g ∧ w.cell? ⟨b, i, none⟩ = some (.int .i64 v)
def VInt (lo hi : Int) (u : Value) : Prop := ∃ v : Int, u = .int .i64 v ∧ lo ≤ v ∧ v ≤ hi
theorem VArrU.kept {br g : Nat} {u : Value} {w w' : World} (h : VArrU br g u w) (hg : w.grownBy w' (some br)) : VArrU br g u w' := by
  obtain ⟨b, h1, h2, h2', h3⟩ := h
  refine ⟨b, h1, h2, h2', fun i hi => ?_⟩
  obtain ⟨v, hc⟩ := h3 i hi
  exact ⟨v, hg.cell hc (fun e => h2 (Option.some.inj e))⟩
theorem VPtrU.kept {br g : Nat} {u : Value} {w w' : World} (h : VPtrU br g u w) (hg : w.grownBy w' (some br)) : VPtrU br g u w' := by
  obtain ⟨b, i, v, h1, h2, h2', hc⟩ := h
  exact ⟨b, i, v, h1, h2, h2', hg.cell hc (fun e => h2 (Option.some.inj e))⟩
theorem VArrU.set {br g : Nat} {u : Value} {w : World} (h : VArrU br g u w) (j : Nat) (x : Value) : VArrU br g u (w.setCell ⟨g, j, none⟩ x) := by
  obtain ⟨b, h1, h2, h2', h3⟩ := h
  refine ⟨b, h1, h2, h2', fun i hi => ?_⟩
  obtain ⟨v, hc⟩ := h3 i hi
  exact ⟨v, (World.cell?_of_block (w := w) (Below.heap_setCell w ⟨g, j, none⟩ x b h2')).trans hc⟩
theorem VPtrU.set {br g : Nat} {u : Value} {w : World} (h : VPtrU br g u w) (j : Nat) (x : Value) : VPtrU br g u (w.setCell ⟨g, j, none⟩ x) := by
  obtain ⟨b, i, v, h1, h2, h2', hc⟩ := h
  exact ⟨b, i, v, h1, h2, h2', (World.cell?_of_block (w := w) (Below.heap_setCell w ⟨g, j, none⟩ x b h2')).trans hc⟩
theorem getD_false {L : Array Bool} {i : Nat} (h : L.getD i true = false) (hi : i < L.size) : L.getD i false = false := by
  rw [Array.getD_eq_getD_getElem?, Array.getElem?_eq_getElem hi] at h ⊢
  exact h
theorem two_bools (a b : Bool) : a.toNat + b.toNat ≤ 2 := by cases a <;> cases b <;> simp
theorem arrU (x y z : Int) (W : World) {br g : Nat} (hlt : br < W.heap.size) (hg : g < W.heap.size) : VArrU br g (.slice (some ⟨W.heap.size, 0, none⟩) 3 3) (W.alloc (.cells #[.int .i64 x, .int .i64 y, .int .i64 z] 3)) := by
  refine ⟨W.heap.size, rfl, by omega, by omega, fun i hi => ?_⟩
  have : i = 0 ∨ i = 1 ∨ i = 2 := by omega
  rcases this with rfl | rfl | rfl
  · exact ⟨x, cell_new _ _ _ _ _ rfl⟩
  · exact ⟨y, cell_new _ _ _ _ _ rfl⟩
  · exact ⟨z, cell_new _ _ _ _ _ rfl⟩
theorem AtD.fin {w w2 W : World} {g n cap q : Nat} (h : AtD w2 w.heap.size g n cap q W) (hn : n ≤ 12) (hw : w.heap.size ≤ w2.heap.size) : ∃ l : List Int, OwnI W w.heap.size (.slice (some ⟨g, 0, none⟩) n cap) l ∧ l.length ≤ 12 := by
  obtain ⟨_, _, l, hl, ho⟩ := h
  have : OwnI W w2.heap.size (.slice (some ⟨g, 0, none⟩) n cap) l := by unfold OwnI; rw [hl]; exact ho
  exact ⟨l, this.mono hw, by omega⟩
structure InvDB (P0 V4 : Value) (a : Option Addr) (len cap : Nat) (w2 : World) (br g n cp : Nat) (x5 x6 x7 x8 x9 x10 x11 x12 x13 x14 x15 x16 x17 x18 x19 x20 x21 x22 x23 x24 x25 x26 x27 x28 x29 x30 x31 x54 : Value) (L : Array Bool) (act : Act) (w : World) : Prop where
  ex : ∃ u40 u41 u42 u43 u44 u45 u46 u47 u48 u49 u50 u51 u52 u53 : Value, act = ⟨#[.slice a len cap, undef, .slice none 0 0, P0, V4, x5, x6, x7, x8, x9, x10, x11, x12, x13, x14, x15, x16, x17, x18, x19, x20, x21, x22, x23, x24, x25, x26, x27, x28, x29, x30, x31, V4, .int .i64 n, .bool true, .bool true, P0, .int .i64 0, .bool true, .bool true, u40, u41, u42, u43, u44, u45, u46, u47, u48, u49, u50, u51, u52, u53, x54], []⟩ ∧ AtD w2 br g n cp (22 + ((L.getD 4 false).toNat + (L.getD 10 false).toNat)) w ∧
    (L.getD 0 false = true → u40 = V4) ∧
    (L.getD 1 false = true → u41 = P0) ∧
    (L.getD 2 false = true → u42 = V4) ∧
    (L.getD 3 false = true → u43 = .int .i64 n) ∧
    (L.getD 4 false = true → VInt 0 (n - 1) u44) ∧
    (L.getD 5 false = true → u45 = V4) ∧
    (L.getD 6 false = true → u46 = .pointer (some ⟨g, 0, none⟩)) ∧
    (L.getD 7 false = true → ∃ x : Int, u47 = .int .i64 x) ∧
    (L.getD 8 false = true → VArrU br g u48 w) ∧
    (L.getD 9 false = true → u49 = P0) ∧
    (L.getD 10 false = true → VInt 0 2 u50) ∧
    (L.getD 11 false = true → VPtrU br g u51 w) ∧
    (L.getD 12 false = true → ∃ x : Int, u52 = .int .i64 x) ∧
    (L.getD 13 false = true → ∃ k : Nat, u53 = .pointer (some ⟨g, k, none⟩) ∧ k < n)
set_option maxHeartbeats 1000000 in
theorem DrawBitsOf_c (a : Option Addr) (len cap : Nat) (w : World) (hB : Bytes w w.heap.size a len) (hc : len ≤ cap) (hm : len ≤ maxLen) :
    Calls Try.prog 34 #[.slice a len cap] w fun e w' => ∃ (v : Value) (l : List Int), e = .returned v ∧ OwnI w' w.heap.size v l ∧ l.length ≤ 12 ∧ Below w.heap.size w w' := by
  have HB := Lib.hid hB
  clear hB
  go_enter Try.func34, Try.ntmps34
  go_wp2_with fail
  refine (l6Open_c a len cap w HB.out hc hm).mono ?_
  rintro e w1 ⟨rfl, hg1, hr1⟩
  go_wp2_with fail
  refine (l93Set_c w.heap.size 0 _ hr1 (by omega)).mono ?_
  rintro e w2 ⟨m, hm0, hm1, rfl, hg2, hr2⟩
  go_wp2_with fail
  refine (specBitsList_c m _).mono ?_
  rintro e w3 ⟨v, rfl, hown, hg3⟩
  have hlt := hr2.lt
  have hln := blp_le m 12
  rcases hown.cases with ⟨rfl, h0⟩ | ⟨g, cp, rfl, hgb, hgl⟩
  · go_wp2_with fail
    go_ret
    exact ⟨_, [], rfl, World.ownsRow_nil _ _ _ _, by simp, drawn_below hg1 (grown_trans hg2 (toSome hg3))⟩
  · have hA0 : AtD w2 w.heap.size g (blp m 12).length cp 10 w3 := ⟨⟨hg3.os, hg3.tape, hg3.output, hg3.size, fun k hk _ => hg3.block k hk (fun e => by cases e)⟩, (hr2.of_blocks fun j hj => hg3.block j (by omega) (fun e => by cases e)).mono (by omega), blp m 12, rfl, hown⟩
    obtain ⟨n, hn⟩ : ∃ n, n = (blp m 12).length := ⟨_, rfl⟩
    rw [← hn] at hA0 hln ⊢
    have HA := Lib.hid hA0
    have H1 := Lib.hid hg1
    have H2 := Lib.hid hg2
    have hbr : w.heap.size < g := by omega
    clear hn hown hg3 hA0 hg1 hg2 hr1 hr2
    go_upto_if 14 with fail
    go_cut [5, 6] (fun _ _ wx => AtD w2 w.heap.size g n cp 20 wx)
    case first =>
      by_cases h1 : 1 < n
      · have h1' : (1 : Int) < (n : Int) := by omega
        obtain ⟨A1, A2, A3⟩ := HA.out
        go_wp2_with fail
        refine (pick_c w.heap.size 10 (n : Int) _ A2 (by omega) (by omega) (by omega)).mono ?_
        rintro e w4 ⟨k, k0, k1, rfl, hgk, hrk⟩
        have row := A3.kept hgk (fun e => by have := Option.some.inj e; omega)
        have hg4 := grown_trans A1 hgk
        obtain ⟨x0, hx0⟩ := row.cell 0 (by omega)
        obtain ⟨xk, hxk⟩ := row.cell k.toNat (by omega)
        have f0 := row.frozen 0
        have fk := row.frozen k.toNat
        have HX : ∀ (j : Nat) (y z : Int), Hid (AtD w2 w.heap.size g n cp 20 ((w4.setCell ⟨g, 0, none⟩ (.int .i64 y)).setCell ⟨g, j, none⟩ (.int .i64 z))) := fun _ _ _ =>
          ⟨grown_set (grown_set hg4 row.base 0 _) row.base _ _, ((hrk.set hbr 0 _).set hbr _ _).mono (by omega), (row.set 0 _).set _ _⟩
        clear row hg4 hgk hrk A1 A2 A3
        by_cases hk : k = 0
        · subst hk
          go_wp2_with fail
          go_meet
          exact (HX _ _ _).out
        · have hk' : ¬ k.toNat = 0 := by omega
          have hk2 : ¬ 0 = k.toNat := by omega
          go_wp2_with fail
          go_meet
          exact (HX _ _ _).out
      · have h1' : ¬ (1 : Int) < (n : Int) := by omega
        go_wp2_with fail
        go_meet
        exact ⟨HA.out.1, HA.out.2.1.mono (by omega), HA.out.2.2⟩
    case rest =>
      have HC := Lib.hid hcut
      clear hcut
      have hw2 : w.heap.size ≤ w2.heap.size := by omega
      have HF : ∀ (W : World) (q : Nat), AtD w2 w.heap.size g n cp q W → Hid ((∃ l : List Int, OwnI W w.heap.size (.slice (some ⟨g, 0, none⟩) n cp) l ∧ l.length ≤ 12) ∧ Below w.heap.size w W) := fun W q h => ⟨h.fin hln hw2, drawn_below H1.out (grown_trans H2.out h.1)⟩
      by_cases hn0 : n = 0
      · subst hn0
        have HE := HF _ _ HC.out
        go_wp2_with fail
        go_ret
        obtain ⟨⟨l, l1, l2⟩, hb⟩ := HE.out
        exact ⟨_, l, rfl, l1, l2, hb⟩
      · have hn1 : (0 : Int) < (n : Int) := by omega
        go_wp2_with fail
        refine (pick_c w.heap.size 20 12 _ HC.out.2.1 (by omega) (by omega) (by omega)).mono ?_
        rintro e w4 ⟨k, k0, k1, rfl, hgk, hrk⟩
        have HD : Hid (AtD w2 w.heap.size g n cp 21 w4) := ⟨grown_trans HC.out.1 hgk, hrk, HC.out.2.2.kept hgk (fun e => by have := Option.some.inj e; omega)⟩
        clear hgk hrk
        by_cases hk : k = 0
        · subst hk
          go_wp2_with fail
          refine wp_region_inv (by kernel_rfl) (InvDB (.pointer (some ⟨w.heap.size, 0, none⟩)) (.slice (some ⟨g, 0, none⟩) n cp) a len cap w2 w.heap.size g n cp u5 u6 u7 u8 u9 u10 u11 u12 u13 u14 u15 u16 u17 u18 u19 u20 u21 u22 u23 u24 u25 u26 u27 u28 u29 u30 u31 u54) (by kernel_rfl) ?_ ?_ ?_
          · exact ⟨_, _, _, _, _, _, _, _, _, _, _, _, _, _, rfl, HD.out.drew.more (by omega), by simp, by simp, by simp, by simp, by simp, by simp, by simp, by simp, by simp, by simp, by simp, by simp, by simp, by simp⟩
          · rintro L act W i hs ⟨u40, u41, u42, u43, u44, u45, u46, u47, u48, u49, u50, u51, u52, u53, rfl, hG, p0, p1, p2, p3, p4, p5, p6, p7, p8, p9, p10, p11, p12, p13⟩ hi hl hd
            have hi' : i < 15 := hi
            have hc' : i = 0 ∨ i = 1 ∨ i = 2 ∨ i = 3 ∨ i = 4 ∨ i = 5 ∨ i = 6 ∨ i = 7 ∨ i = 8 ∨ i = 9 ∨ i = 10 ∨ i = 11 ∨ i = 12 ∨ i = 13 ∨ i = 14 := by omega
            rcases hc' with rfl | rfl | rfl | rfl | rfl | rfl | rfl | rfl | rfl | rfl | rfl | rfl | rfl | rfl | rfl
            · have hLf : L.getD 0 false = false := getD_false hl (by rw [hs]; decide)
              have hsz : 0 < L.size := by rw [hs]; decide
              have OL : ∀ j, j ≠ 0 → (L.setIfInBounds 0 true).getD j false = true → L.getD j false = true := fun j hj h => by rw [getD_setB _ _ _ _ hsz, if_neg hj] at h; exact h
              have hN : ((L.setIfInBounds 0 true).getD 4 false).toNat + ((L.setIfInBounds 0 true).getD 10 false).toNat = (L.getD 4 false).toNat + (L.getD 10 false).toNat := by
                rw [getD_setB _ _ _ _ hsz, getD_setB _ _ _ _ hsz, if_neg (by decide), if_neg (by decide)]
              have ST0 := p0
              have ST1 := p1
              have ST2 := p2
              have ST3 := p3
              have ST4 := p4
              have ST5 := p5
              have ST6 := p6
              have ST7 := p7
              have ST8 := p8
              have ST9 := p9
              have ST10 := p10
              have ST11 := p11
              have ST12 := p12
              have ST13 := p13
              refine wpOp_run rfl rfl fun K hK => ?_
              clear hd hs hi hl
              go_simp
              refine hK _ _ ⟨_, _, _, _, _, _, _, _, _, _, _, _, _, _, rfl, by rw [hN]; exact hG, fun _ => rfl, fun h => ST1 (OL 1 (by decide) h), fun h => ST2 (OL 2 (by decide) h), fun h => ST3 (OL 3 (by decide) h), fun h => ST4 (OL 4 (by decide) h), fun h => ST5 (OL 5 (by decide) h), fun h => ST6 (OL 6 (by decide) h), fun h => ST7 (OL 7 (by decide) h), fun h => ST8 (OL 8 (by decide) h), fun h => ST9 (OL 9 (by decide) h), fun h => ST10 (OL 10 (by decide) h), fun h => ST11 (OL 11 (by decide) h), fun h => ST12 (OL 12 (by decide) h), fun h => ST13 (OL 13 (by decide) h)⟩
            · have hLf : L.getD 1 false = false := getD_false hl (by rw [hs]; decide)
              have hsz : 1 < L.size := by rw [hs]; decide
              have OL : ∀ j, j ≠ 1 → (L.setIfInBounds 1 true).getD j false = true → L.getD j false = true := fun j hj h => by rw [getD_setB _ _ _ _ hsz, if_neg hj] at h; exact h
              have hN : ((L.setIfInBounds 1 true).getD 4 false).toNat + ((L.setIfInBounds 1 true).getD 10 false).toNat = (L.getD 4 false).toNat + (L.getD 10 false).toNat := by
                rw [getD_setB _ _ _ _ hsz, getD_setB _ _ _ _ hsz, if_neg (by decide), if_neg (by decide)]
              have ST0 := p0
              have ST1 := p1
              have ST2 := p2
              have ST3 := p3
              have ST4 := p4
              have ST5 := p5
              have ST6 := p6
              have ST7 := p7
              have ST8 := p8
              have ST9 := p9
              have ST10 := p10
              have ST11 := p11
              have ST12 := p12
              have ST13 := p13
              refine wpOp_run rfl rfl fun K hK => ?_
              clear hd hs hi hl
              go_simp
              refine hK _ _ ⟨_, _, _, _, _, _, _, _, _, _, _, _, _, _, rfl, by rw [hN]; exact hG, fun h => ST0 (OL 0 (by decide) h), fun _ => rfl, fun h => ST2 (OL 2 (by decide) h), fun h => ST3 (OL 3 (by decide) h), fun h => ST4 (OL 4 (by decide) h), fun h => ST5 (OL 5 (by decide) h), fun h => ST6 (OL 6 (by decide) h), fun h => ST7 (OL 7 (by decide) h), fun h => ST8 (OL 8 (by decide) h), fun h => ST9 (OL 9 (by decide) h), fun h => ST10 (OL 10 (by decide) h), fun h => ST11 (OL 11 (by decide) h), fun h => ST12 (OL 12 (by decide) h), fun h => ST13 (OL 13 (by decide) h)⟩
            · have hLf : L.getD 2 false = false := getD_false hl (by rw [hs]; decide)
              have hsz : 2 < L.size := by rw [hs]; decide
              have OL : ∀ j, j ≠ 2 → (L.setIfInBounds 2 true).getD j false = true → L.getD j false = true := fun j hj h => by rw [getD_setB _ _ _ _ hsz, if_neg hj] at h; exact h
              have hN : ((L.setIfInBounds 2 true).getD 4 false).toNat + ((L.setIfInBounds 2 true).getD 10 false).toNat = (L.getD 4 false).toNat + (L.getD 10 false).toNat := by
                rw [getD_setB _ _ _ _ hsz, getD_setB _ _ _ _ hsz, if_neg (by decide), if_neg (by decide)]
              have ST0 := p0
              have ST1 := p1
              have ST2 := p2
              have ST3 := p3
              have ST4 := p4
              have ST5 := p5
              have ST6 := p6
              have ST7 := p7
              have ST8 := p8
              have ST9 := p9
              have ST10 := p10
              have ST11 := p11
              have ST12 := p12
              have ST13 := p13
              refine wpOp_run rfl rfl fun K hK => ?_
              clear hd hs hi hl
              go_simp
              refine hK _ _ ⟨_, _, _, _, _, _, _, _, _, _, _, _, _, _, rfl, by rw [hN]; exact hG, fun h => ST0 (OL 0 (by decide) h), fun h => ST1 (OL 1 (by decide) h), fun _ => rfl, fun h => ST3 (OL 3 (by decide) h), fun h => ST4 (OL 4 (by decide) h), fun h => ST5 (OL 5 (by decide) h), fun h => ST6 (OL 6 (by decide) h), fun h => ST7 (OL 7 (by decide) h), fun h => ST8 (OL 8 (by decide) h), fun h => ST9 (OL 9 (by decide) h), fun h => ST10 (OL 10 (by decide) h), fun h => ST11 (OL 11 (by decide) h), fun h => ST12 (OL 12 (by decide) h), fun h => ST13 (OL 13 (by decide) h)⟩
            · have hLf : L.getD 3 false = false := getD_false hl (by rw [hs]; decide)
              have hsz : 3 < L.size := by rw [hs]; decide
              have OL : ∀ j, j ≠ 3 → (L.setIfInBounds 3 true).getD j false = true → L.getD j false = true := fun j hj h => by rw [getD_setB _ _ _ _ hsz, if_neg hj] at h; exact h
              have hN : ((L.setIfInBounds 3 true).getD 4 false).toNat + ((L.setIfInBounds 3 true).getD 10 false).toNat = (L.getD 4 false).toNat + (L.getD 10 false).toNat := by
                rw [getD_setB _ _ _ _ hsz, getD_setB _ _ _ _ hsz, if_neg (by decide), if_neg (by decide)]
              have d2 := hd _ rfl ⟨2, .data⟩ (by simp) rfl
              obtain rfl := p2 d2
              have ST0 := p0
              have ST1 := p1
              have ST2 := p2
              have ST3 := p3
              have ST4 := p4
              have ST5 := p5
              have ST6 := p6
              have ST7 := p7
              have ST8 := p8
              have ST9 := p9
              have ST10 := p10
              have ST11 := p11
              have ST12 := p12
              have ST13 := p13
              refine wpOp_run rfl rfl fun K hK => ?_
              clear hd hs hi hl
              go_simp
              refine hK _ _ ⟨_, _, _, _, _, _, _, _, _, _, _, _, _, _, rfl, by rw [hN]; exact hG, fun h => ST0 (OL 0 (by decide) h), fun h => ST1 (OL 1 (by decide) h), fun h => ST2 (OL 2 (by decide) h), fun _ => rfl, fun h => ST4 (OL 4 (by decide) h), fun h => ST5 (OL 5 (by decide) h), fun h => ST6 (OL 6 (by decide) h), fun h => ST7 (OL 7 (by decide) h), fun h => ST8 (OL 8 (by decide) h), fun h => ST9 (OL 9 (by decide) h), fun h => ST10 (OL 10 (by decide) h), fun h => ST11 (OL 11 (by decide) h), fun h => ST12 (OL 12 (by decide) h), fun h => ST13 (OL 13 (by decide) h)⟩
            · have hLf : L.getD 4 false = false := getD_false hl (by rw [hs]; decide)
              have hsz : 4 < L.size := by rw [hs]; decide
              have OL : ∀ j, j ≠ 4 → (L.setIfInBounds 4 true).getD j false = true → L.getD j false = true := fun j hj h => by rw [getD_setB _ _ _ _ hsz, if_neg hj] at h; exact h
              have hN : ((L.setIfInBounds 4 true).getD 4 false).toNat + ((L.setIfInBounds 4 true).getD 10 false).toNat = (L.getD 4 false).toNat + (L.getD 10 false).toNat + 1 := by
                rw [getD_setB _ _ _ _ hsz, getD_setB _ _ _ _ hsz, if_pos rfl, if_neg (by decide), hLf]; simp; try omega
              have d1 := hd _ rfl ⟨1, .data⟩ (by simp) rfl
              have d3 := hd _ rfl ⟨3, .data⟩ (by simp) rfl
              obtain rfl := p1 d1
              obtain rfl := p3 d3
              refine wpOp_run rfl rfl fun K hK => ?_
              clear hd hs hi hl
              go_simp
              refine (pick_c _ _ (n : Int) _ hG.2.1 (by have := two_bools (L.getD 4 false) (L.getD 10 false); omega) (by omega) (by omega)).mono ?_
              rintro e W2 ⟨k, k0, k1, rfl, hgk, hrk⟩
              have ST0 := p0
              have ST1 := p1
              have ST2 := p2
              have ST3 := p3
              have ST4 := p4
              have ST5 := p5
              have ST6 := p6
              have ST7 := p7
              have ST8 := fun h => (p8 h).kept hgk
              have ST9 := p9
              have ST10 := p10
              have ST11 := fun h => (p11 h).kept hgk
              have ST12 := p12
              have ST13 := p13
              refine hK _ _ ⟨_, _, _, _, _, _, _, _, _, _, _, _, _, _, rfl, by rw [hN]; exact hG.call hgk hrk (by omega), fun h => ST0 (OL 0 (by decide) h), fun h => ST1 (OL 1 (by decide) h), fun h => ST2 (OL 2 (by decide) h), fun h => ST3 (OL 3 (by decide) h), fun _ => ⟨k, rfl, k0, by omega⟩, fun h => ST5 (OL 5 (by decide) h), fun h => ST6 (OL 6 (by decide) h), fun h => ST7 (OL 7 (by decide) h), fun h => ST8 (OL 8 (by decide) h), fun h => ST9 (OL 9 (by decide) h), fun h => ST10 (OL 10 (by decide) h), fun h => ST11 (OL 11 (by decide) h), fun h => ST12 (OL 12 (by decide) h), fun h => ST13 (OL 13 (by decide) h)⟩
            · have hLf : L.getD 5 false = false := getD_false hl (by rw [hs]; decide)
              have hsz : 5 < L.size := by rw [hs]; decide
              have OL : ∀ j, j ≠ 5 → (L.setIfInBounds 5 true).getD j false = true → L.getD j false = true := fun j hj h => by rw [getD_setB _ _ _ _ hsz, if_neg hj] at h; exact h
              have hN : ((L.setIfInBounds 5 true).getD 4 false).toNat + ((L.setIfInBounds 5 true).getD 10 false).toNat = (L.getD 4 false).toNat + (L.getD 10 false).toNat := by
                rw [getD_setB _ _ _ _ hsz, getD_setB _ _ _ _ hsz, if_neg (by decide), if_neg (by decide)]
              have ST0 := p0
              have ST1 := p1
              have ST2 := p2
              have ST3 := p3
              have ST4 := p4
              have ST5 := p5
              have ST6 := p6
              have ST7 := p7
              have ST8 := p8
              have ST9 := p9
              have ST10 := p10
              have ST11 := p11
              have ST12 := p12
              have ST13 := p13
              refine wpOp_run rfl rfl fun K hK => ?_
              clear hd hs hi hl
              go_simp
              refine hK _ _ ⟨_, _, _, _, _, _, _, _, _, _, _, _, _, _, rfl, by rw [hN]; exact hG, fun h => ST0 (OL 0 (by decide) h), fun h => ST1 (OL 1 (by decide) h), fun h => ST2 (OL 2 (by decide) h), fun h => ST3 (OL 3 (by decide) h), fun h => ST4 (OL 4 (by decide) h), fun _ => rfl, fun h => ST6 (OL 6 (by decide) h), fun h => ST7 (OL 7 (by decide) h), fun h => ST8 (OL 8 (by decide) h), fun h => ST9 (OL 9 (by decide) h), fun h => ST10 (OL 10 (by decide) h), fun h => ST11 (OL 11 (by decide) h), fun h => ST12 (OL 12 (by decide) h), fun h => ST13 (OL 13 (by decide) h)⟩
            · have hLf : L.getD 6 false = false := getD_false hl (by rw [hs]; decide)
              have hsz : 6 < L.size := by rw [hs]; decide
              have OL : ∀ j, j ≠ 6 → (L.setIfInBounds 6 true).getD j false = true → L.getD j false = true := fun j hj h => by rw [getD_setB _ _ _ _ hsz, if_neg hj] at h; exact h
              have hN : ((L.setIfInBounds 6 true).getD 4 false).toNat + ((L.setIfInBounds 6 true).getD 10 false).toNat = (L.getD 4 false).toNat + (L.getD 10 false).toNat := by
                rw [getD_setB _ _ _ _ hsz, getD_setB _ _ _ _ hsz, if_neg (by decide), if_neg (by decide)]
              have d5 := hd _ rfl ⟨5, .data⟩ (by simp) rfl
              obtain rfl := p5 d5
              have ST0 := p0
              have ST1 := p1
              have ST2 := p2
              have ST3 := p3
              have ST4 := p4
              have ST5 := p5
              have ST6 := p6
              have ST7 := p7
              have ST8 := p8
              have ST9 := p9
              have ST10 := p10
              have ST11 := p11
              have ST12 := p12
              have ST13 := p13
              refine wpOp_run rfl rfl fun K hK => ?_
              clear hd hs hi hl
              go_simp
              refine hK _ _ ⟨_, _, _, _, _, _, _, _, _, _, _, _, _, _, rfl, by rw [hN]; exact hG, fun h => ST0 (OL 0 (by decide) h), fun h => ST1 (OL 1 (by decide) h), fun h => ST2 (OL 2 (by decide) h), fun h => ST3 (OL 3 (by decide) h), fun h => ST4 (OL 4 (by decide) h), fun h => ST5 (OL 5 (by decide) h), fun _ => rfl, fun h => ST7 (OL 7 (by decide) h), fun h => ST8 (OL 8 (by decide) h), fun h => ST9 (OL 9 (by decide) h), fun h => ST10 (OL 10 (by decide) h), fun h => ST11 (OL 11 (by decide) h), fun h => ST12 (OL 12 (by decide) h), fun h => ST13 (OL 13 (by decide) h)⟩
            · have hLf : L.getD 7 false = false := getD_false hl (by rw [hs]; decide)
              have hsz : 7 < L.size := by rw [hs]; decide
              have OL : ∀ j, j ≠ 7 → (L.setIfInBounds 7 true).getD j false = true → L.getD j false = true := fun j hj h => by rw [getD_setB _ _ _ _ hsz, if_neg hj] at h; exact h
              have hN : ((L.setIfInBounds 7 true).getD 4 false).toNat + ((L.setIfInBounds 7 true).getD 10 false).toNat = (L.getD 4 false).toNat + (L.getD 10 false).toNat := by
                rw [getD_setB _ _ _ _ hsz, getD_setB _ _ _ _ hsz, if_neg (by decide), if_neg (by decide)]
              have d6 := hd _ rfl ⟨6, .data⟩ (by simp) rfl
              obtain rfl := p6 d6
              obtain ⟨x, hcell⟩ := hG.2.2.cell 0 (by omega)
              have ST0 := p0
              have ST1 := p1
              have ST2 := p2
              have ST3 := p3
              have ST4 := p4
              have ST5 := p5
              have ST6 := p6
              have ST7 := p7
              have ST8 := p8
              have ST9 := p9
              have ST10 := p10
              have ST11 := p11
              have ST12 := p12
              have ST13 := p13
              refine wpOp_run rfl rfl fun K hK => ?_
              clear hd hs hi hl
              go_simp
              refine hK _ _ ⟨_, _, _, _, _, _, _, _, _, _, _, _, _, _, rfl, by rw [hN]; exact hG, fun h => ST0 (OL 0 (by decide) h), fun h => ST1 (OL 1 (by decide) h), fun h => ST2 (OL 2 (by decide) h), fun h => ST3 (OL 3 (by decide) h), fun h => ST4 (OL 4 (by decide) h), fun h => ST5 (OL 5 (by decide) h), fun h => ST6 (OL 6 (by decide) h), fun _ => ⟨x, rfl⟩, fun h => ST8 (OL 8 (by decide) h), fun h => ST9 (OL 9 (by decide) h), fun h => ST10 (OL 10 (by decide) h), fun h => ST11 (OL 11 (by decide) h), fun h => ST12 (OL 12 (by decide) h), fun h => ST13 (OL 13 (by decide) h)⟩
            · have hLf : L.getD 8 false = false := getD_false hl (by rw [hs]; decide)
              have hsz : 8 < L.size := by rw [hs]; decide
              have OL : ∀ j, j ≠ 8 → (L.setIfInBounds 8 true).getD j false = true → L.getD j false = true := fun j hj h => by rw [getD_setB _ _ _ _ hsz, if_neg hj] at h; exact h
              have hN : ((L.setIfInBounds 8 true).getD 4 false).toNat + ((L.setIfInBounds 8 true).getD 10 false).toNat = (L.getD 4 false).toNat + (L.getD 10 false).toNat := by
                rw [getD_setB _ _ _ _ hsz, getD_setB _ _ _ _ hsz, if_neg (by decide), if_neg (by decide)]
              have d7 := hd _ rfl ⟨7, .data⟩ (by simp) rfl
              obtain ⟨x, rfl⟩ := p7 d7
              have ST0 := p0
              have ST1 := p1
              have ST2 := p2
              have ST3 := p3
              have ST4 := p4
              have ST5 := p5
              have ST6 := p6
              have ST7 := p7
              have ST8 := fun (o : Obj) h => (p8 h).kept (World.grownBy_alloc W o _)
              have ST9 := p9
              have ST10 := p10
              have ST11 := fun (o : Obj) h => (p11 h).kept (World.grownBy_alloc W o _)
              have ST12 := p12
              have ST13 := p13
              refine wpOp_run rfl rfl fun K hK => ?_
              clear hd hs hi hl
              go_simp
              refine hK _ _ ⟨_, _, _, _, _, _, _, _, _, _, _, _, _, _, rfl, by rw [hN]; exact hG.alloc _, fun h => ST0 (OL 0 (by decide) h), fun h => ST1 (OL 1 (by decide) h), fun h => ST2 (OL 2 (by decide) h), fun h => ST3 (OL 3 (by decide) h), fun h => ST4 (OL 4 (by decide) h), fun h => ST5 (OL 5 (by decide) h), fun h => ST6 (OL 6 (by decide) h), fun h => ST7 (OL 7 (by decide) h), fun _ => arrU _ _ _ W hG.2.1.lt hG.lt, fun h => ST9 (OL 9 (by decide) h), fun h => ST10 (OL 10 (by decide) h), fun h => ST11 _ (OL 11 (by decide) h), fun h => ST12 (OL 12 (by decide) h), fun h => ST13 (OL 13 (by decide) h)⟩
            · have hLf : L.getD 9 false = false := getD_false hl (by rw [hs]; decide)
              have hsz : 9 < L.size := by rw [hs]; decide
              have OL : ∀ j, j ≠ 9 → (L.setIfInBounds 9 true).getD j false = true → L.getD j false = true := fun j hj h => by rw [getD_setB _ _ _ _ hsz, if_neg hj] at h; exact h
              have hN : ((L.setIfInBounds 9 true).getD 4 false).toNat + ((L.setIfInBounds 9 true).getD 10 false).toNat = (L.getD 4 false).toNat + (L.getD 10 false).toNat := by
                rw [getD_setB _ _ _ _ hsz, getD_setB _ _ _ _ hsz, if_neg (by decide), if_neg (by decide)]
              have ST0 := p0
              have ST1 := p1
              have ST2 := p2
              have ST3 := p3
              have ST4 := p4
              have ST5 := p5
              have ST6 := p6
              have ST7 := p7
              have ST8 := p8
              have ST9 := p9
              have ST10 := p10
              have ST11 := p11
              have ST12 := p12
              have ST13 := p13
              refine wpOp_run rfl rfl fun K hK => ?_
              clear hd hs hi hl
              go_simp
              refine hK _ _ ⟨_, _, _, _, _, _, _, _, _, _, _, _, _, _, rfl, by rw [hN]; exact hG, fun h => ST0 (OL 0 (by decide) h), fun h => ST1 (OL 1 (by decide) h), fun h => ST2 (OL 2 (by decide) h), fun h => ST3 (OL 3 (by decide) h), fun h => ST4 (OL 4 (by decide) h), fun h => ST5 (OL 5 (by decide) h), fun h => ST6 (OL 6 (by decide) h), fun h => ST7 (OL 7 (by decide) h), fun h => ST8 (OL 8 (by decide) h), fun _ => rfl, fun h => ST10 (OL 10 (by decide) h), fun h => ST11 (OL 11 (by decide) h), fun h => ST12 (OL 12 (by decide) h), fun h => ST13 (OL 13 (by decide) h)⟩
            · have hLf : L.getD 10 false = false := getD_false hl (by rw [hs]; decide)
              have hsz : 10 < L.size := by rw [hs]; decide
              have OL : ∀ j, j ≠ 10 → (L.setIfInBounds 10 true).getD j false = true → L.getD j false = true := fun j hj h => by rw [getD_setB _ _ _ _ hsz, if_neg hj] at h; exact h
              have hN : ((L.setIfInBounds 10 true).getD 4 false).toNat + ((L.setIfInBounds 10 true).getD 10 false).toNat = (L.getD 4 false).toNat + (L.getD 10 false).toNat + 1 := by
                rw [getD_setB _ _ _ _ hsz, getD_setB _ _ _ _ hsz, if_neg (by decide), if_pos rfl, hLf]; simp; try omega
              have d9 := hd _ rfl ⟨9, .data⟩ (by simp) rfl
              obtain rfl := p9 d9
              refine wpOp_run rfl rfl fun K hK => ?_
              clear hd hs hi hl
              go_simp
              refine (pick_c _ _ 3 _ hG.2.1 (by have := two_bools (L.getD 4 false) (L.getD 10 false); omega) (by omega) (by omega)).mono ?_
              rintro e W2 ⟨k, k0, k1, rfl, hgk, hrk⟩
              have ST0 := p0
              have ST1 := p1
              have ST2 := p2
              have ST3 := p3
              have ST4 := p4
              have ST5 := p5
              have ST6 := p6
              have ST7 := p7
              have ST8 := fun h => (p8 h).kept hgk
              have ST9 := p9
              have ST10 := p10
              have ST11 := fun h => (p11 h).kept hgk
              have ST12 := p12
              have ST13 := p13
              refine hK _ _ ⟨_, _, _, _, _, _, _, _, _, _, _, _, _, _, rfl, by rw [hN]; exact hG.call hgk hrk (by omega), fun h => ST0 (OL 0 (by decide) h), fun h => ST1 (OL 1 (by decide) h), fun h => ST2 (OL 2 (by decide) h), fun h => ST3 (OL 3 (by decide) h), fun h => ST4 (OL 4 (by decide) h), fun h => ST5 (OL 5 (by decide) h), fun h => ST6 (OL 6 (by decide) h), fun h => ST7 (OL 7 (by decide) h), fun h => ST8 (OL 8 (by decide) h), fun h => ST9 (OL 9 (by decide) h), fun _ => ⟨k, rfl, k0, by omega⟩, fun h => ST11 (OL 11 (by decide) h), fun h => ST12 (OL 12 (by decide) h), fun h => ST13 (OL 13 (by decide) h)⟩
            · have hLf : L.getD 11 false = false := getD_false hl (by rw [hs]; decide)
              have hsz : 11 < L.size := by rw [hs]; decide
              have OL : ∀ j, j ≠ 11 → (L.setIfInBounds 11 true).getD j false = true → L.getD j false = true := fun j hj h => by rw [getD_setB _ _ _ _ hsz, if_neg hj] at h; exact h
              have hN : ((L.setIfInBounds 11 true).getD 4 false).toNat + ((L.setIfInBounds 11 true).getD 10 false).toNat = (L.getD 4 false).toNat + (L.getD 10 false).toNat := by
                rw [getD_setB _ _ _ _ hsz, getD_setB _ _ _ _ hsz, if_neg (by decide), if_neg (by decide)]
              have d8 := hd _ rfl ⟨8, .data⟩ (by simp) rfl
              have d10 := hd _ rfl ⟨10, .data⟩ (by simp) rfl
              obtain ⟨b, rfl, hb, hb2, hcs⟩ := p8 d8
              obtain ⟨k, rfl, k0, k1⟩ := p10 d10
              obtain ⟨v, hcell⟩ := hcs k.toNat (by omega)
              have k2 : k < 3 := by omega
              have ST0 := p0
              have ST1 := p1
              have ST2 := p2
              have ST3 := p3
              have ST4 := p4
              have ST5 := p5
              have ST6 := p6
              have ST7 := p7
              have ST8 := p8
              have ST9 := p9
              have ST10 := p10
              have ST11 := p11
              have ST12 := p12
              have ST13 := p13
              refine wpOp_run rfl rfl fun K hK => ?_
              clear hd hs hi hl
              go_simp
              refine hK _ _ ⟨_, _, _, _, _, _, _, _, _, _, _, _, _, _, rfl, by rw [hN]; exact hG, fun h => ST0 (OL 0 (by decide) h), fun h => ST1 (OL 1 (by decide) h), fun h => ST2 (OL 2 (by decide) h), fun h => ST3 (OL 3 (by decide) h), fun h => ST4 (OL 4 (by decide) h), fun h => ST5 (OL 5 (by decide) h), fun h => ST6 (OL 6 (by decide) h), fun h => ST7 (OL 7 (by decide) h), fun h => ST8 (OL 8 (by decide) h), fun h => ST9 (OL 9 (by decide) h), fun h => ST10 (OL 10 (by decide) h), fun _ => ⟨b, k.toNat, v, rfl, hb, hb2, hcell⟩, fun h => ST12 (OL 12 (by decide) h), fun h => ST13 (OL 13 (by decide) h)⟩
            · have hLf : L.getD 12 false = false := getD_false hl (by rw [hs]; decide)
              have hsz : 12 < L.size := by rw [hs]; decide
              have OL : ∀ j, j ≠ 12 → (L.setIfInBounds 12 true).getD j false = true → L.getD j false = true := fun j hj h => by rw [getD_setB _ _ _ _ hsz, if_neg hj] at h; exact h
              have hN : ((L.setIfInBounds 12 true).getD 4 false).toNat + ((L.setIfInBounds 12 true).getD 10 false).toNat = (L.getD 4 false).toNat + (L.getD 10 false).toNat := by
                rw [getD_setB _ _ _ _ hsz, getD_setB _ _ _ _ hsz, if_neg (by decide), if_neg (by decide)]
              have d11 := hd _ rfl ⟨11, .data⟩ (by simp) rfl
              obtain ⟨b, i, v, rfl, hb, hb2, hcell⟩ := p11 d11
              have ST0 := p0
              have ST1 := p1
              have ST2 := p2
              have ST3 := p3
              have ST4 := p4
              have ST5 := p5
              have ST6 := p6
              have ST7 := p7
              have ST8 := p8
              have ST9 := p9
              have ST10 := p10
              have ST11 := p11
              have ST12 := p12
              have ST13 := p13
              refine wpOp_run rfl rfl fun K hK => ?_
              clear hd hs hi hl
              go_simp
              refine hK _ _ ⟨_, _, _, _, _, _, _, _, _, _, _, _, _, _, rfl, by rw [hN]; exact hG, fun h => ST0 (OL 0 (by decide) h), fun h => ST1 (OL 1 (by decide) h), fun h => ST2 (OL 2 (by decide) h), fun h => ST3 (OL 3 (by decide) h), fun h => ST4 (OL 4 (by decide) h), fun h => ST5 (OL 5 (by decide) h), fun h => ST6 (OL 6 (by decide) h), fun h => ST7 (OL 7 (by decide) h), fun h => ST8 (OL 8 (by decide) h), fun h => ST9 (OL 9 (by decide) h), fun h => ST10 (OL 10 (by decide) h), fun h => ST11 (OL 11 (by decide) h), fun _ => ⟨v, rfl⟩, fun h => ST13 (OL 13 (by decide) h)⟩
            · have hLf : L.getD 13 false = false := getD_false hl (by rw [hs]; decide)
              have hsz : 13 < L.size := by rw [hs]; decide
              have OL : ∀ j, j ≠ 13 → (L.setIfInBounds 13 true).getD j false = true → L.getD j false = true := fun j hj h => by rw [getD_setB _ _ _ _ hsz, if_neg hj] at h; exact h
              have hN : ((L.setIfInBounds 13 true).getD 4 false).toNat + ((L.setIfInBounds 13 true).getD 10 false).toNat = (L.getD 4 false).toNat + (L.getD 10 false).toNat := by
                rw [getD_setB _ _ _ _ hsz, getD_setB _ _ _ _ hsz, if_neg (by decide), if_neg (by decide)]
              have d0 := hd _ rfl ⟨0, .data⟩ (by simp) rfl
              have d4 := hd _ rfl ⟨4, .data⟩ (by simp) rfl
              obtain rfl := p0 d0
              obtain ⟨k, rfl, k0, k1⟩ := p4 d4
              have k2 : k < n := by omega
              have ST0 := p0
              have ST1 := p1
              have ST2 := p2
              have ST3 := p3
              have ST4 := p4
              have ST5 := p5
              have ST6 := p6
              have ST7 := p7
              have ST8 := p8
              have ST9 := p9
              have ST10 := p10
              have ST11 := p11
              have ST12 := p12
              have ST13 := p13
              refine wpOp_run rfl rfl fun K hK => ?_
              clear hd hs hi hl
              go_simp
              refine hK _ _ ⟨_, _, _, _, _, _, _, _, _, _, _, _, _, _, rfl, by rw [hN]; exact hG, fun h => ST0 (OL 0 (by decide) h), fun h => ST1 (OL 1 (by decide) h), fun h => ST2 (OL 2 (by decide) h), fun h => ST3 (OL 3 (by decide) h), fun h => ST4 (OL 4 (by decide) h), fun h => ST5 (OL 5 (by decide) h), fun h => ST6 (OL 6 (by decide) h), fun h => ST7 (OL 7 (by decide) h), fun h => ST8 (OL 8 (by decide) h), fun h => ST9 (OL 9 (by decide) h), fun h => ST10 (OL 10 (by decide) h), fun h => ST11 (OL 11 (by decide) h), fun h => ST12 (OL 12 (by decide) h), fun _ => ⟨k.toNat, rfl, by omega⟩⟩
            · have hLf : L.getD 14 false = false := getD_false hl (by rw [hs]; decide)
              have hsz : 14 < L.size := by rw [hs]; decide
              have OL : ∀ j, j ≠ 14 → (L.setIfInBounds 14 true).getD j false = true → L.getD j false = true := fun j hj h => by rw [getD_setB _ _ _ _ hsz, if_neg hj] at h; exact h
              have hN : ((L.setIfInBounds 14 true).getD 4 false).toNat + ((L.setIfInBounds 14 true).getD 10 false).toNat = (L.getD 4 false).toNat + (L.getD 10 false).toNat := by
                rw [getD_setB _ _ _ _ hsz, getD_setB _ _ _ _ hsz, if_neg (by decide), if_neg (by decide)]
              have d12 := hd _ rfl ⟨12, .data⟩ (by simp) rfl
              have d13 := hd _ rfl ⟨13, .data⟩ (by simp) rfl
              obtain ⟨k, rfl, k1⟩ := p13 d13
              obtain ⟨x, rfl⟩ := p12 d12
              have hf := hG.2.2.frozen k
              obtain ⟨y, hy⟩ := hG.2.2.cell k k1
              have ST0 := p0
              have ST1 := p1
              have ST2 := p2
              have ST3 := p3
              have ST4 := p4
              have ST5 := p5
              have ST6 := p6
              have ST7 := p7
              have ST8 := fun (jj : Nat) (x : Value) h => (p8 h).set jj x
              have ST9 := p9
              have ST10 := p10
              have ST11 := fun (jj : Nat) (x : Value) h => (p11 h).set jj x
              have ST12 := p12
              have ST13 := p13
              refine wpOp_run rfl rfl fun K hK => ?_
              clear hd hs hi hl
              go_simp
              refine hK _ _ ⟨_, _, _, _, _, _, _, _, _, _, _, _, _, _, rfl, by rw [hN]; exact hG.set hbr _ _, fun h => ST0 (OL 0 (by decide) h), fun h => ST1 (OL 1 (by decide) h), fun h => ST2 (OL 2 (by decide) h), fun h => ST3 (OL 3 (by decide) h), fun h => ST4 (OL 4 (by decide) h), fun h => ST5 (OL 5 (by decide) h), fun h => ST6 (OL 6 (by decide) h), fun h => ST7 (OL 7 (by decide) h), fun h => ST8 _ _ (OL 8 (by decide) h), fun h => ST9 (OL 9 (by decide) h), fun h => ST10 (OL 10 (by decide) h), fun h => ST11 _ _ (OL 11 (by decide) h), fun h => ST12 (OL 12 (by decide) h), fun h => ST13 (OL 13 (by decide) h)⟩
          · rintro L act W ⟨u40, u41, u42, u43, u44, u45, u46, u47, u48, u49, u50, u51, u52, u53, rfl, hG, p0, p1, p2, p3, p4, p5, p6, p7, p8, p9, p10, p11, p12, p13⟩ _
            have HE := HF _ _ hG
            clear hG p0 p1 p2 p3 p4 p5 p6 p7 p8 p9 p10 p11 p12 p13
            go_wp2_with fail
            go_ret
            obtain ⟨⟨l, l1, l2⟩, hb⟩ := HE.out
            exact ⟨_, l, rfl, l1, l2, hb⟩
        · have hk' : (k == 0) = false := by simpa using hk
          have HE := HF _ _ HD.out
          go_wp2_with fail
          go_ret
          obtain ⟨⟨l, l1, l2⟩, hb⟩ := HE.out
          exact ⟨_, l, rfl, l1, l2, hb⟩
end Go.Proofs.Ytnefceoconiphaa
