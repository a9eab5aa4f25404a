/-
  The drawing functions that begin with a memory. No conditions.
-/
import Derived.Test.YtjmlfjpocjmnpaaDrawM
namespace Go.Proofs.Ytjmlfjpocjmnpaa
open Go.RowKit

theorem cell_two {w1 w2 : World} {br : Nat} {x y : Int} (hg : (w1.alloc (.cells #[.int .i64 x, .int .i64 y] 3)).grownBy w2 (some br)) (hne : w1.heap.size ≠ br) (k : Int) (h0 : 0 ≤ k) (h1 : k < 2) :
    ∃ v : Int, v ∈ [x, y] ∧ w2.cell? ⟨w1.heap.size, k.toNat, none⟩ = some (.int .i64 v) := cell_of [x, y] hg hne rfl k h0 (by simpa using h1)
set_option maxHeartbeats 400000 in
theorem l91At_c (br q : Nat) (w : World) (h : Rdr w br q) (hq : q ≤ 900000) :
    Calls Try.prog 33 #[.pointer (some ⟨br, 0, none⟩)] w fun e w' => ∃ m : Int, -1 ≤ m ∧ m ≤ 4 ∧ e = .returned (.int .i64 m) ∧ w.grownBy w' (some br) ∧ Rdr w' br (q + 2) := by
  go_enter Try.func33, Try.ntmps33
  go_wp2_with fail
  refine (pick_c br q 20 _ h (by omega) (by omega) (by omega)).mono ?_
  rintro e w1 ⟨m, hm0, hm1, rfl, hg1, hr1⟩
  by_cases hm : m = 0
  · subst hm
    go_wp2_with fail
    refine (pick_c br (q + 1) 2 _ (hr1.alloc _) (by omega) (by omega) (by omega)).mono ?_
    rintro e w2 ⟨k, hk0, hk1, rfl, hg2, hr2⟩
    have hne : w1.heap.size ≠ br := by have := hr1.lt; omega
    obtain ⟨v, hv, hcell⟩ := cell_of [-1, 4] hg2 hne rfl k hk0 hk1
    have hb : -1 ≤ v ∧ v ≤ 4 := by simp at hv; omega
    have HB := Lib.hid hb
    clear hv hb
    go_wp2
    go_ret
    exact ⟨v, HB.out.1, HB.out.2, rfl, grown_trans (grown_alloc hg1 _) hg2, hr2⟩
  · have hm' : (m == 0) = false := by simpa using hm
    go_wp2_with fail
    refine (pick_c br (q + 1) 4 _ hr1 (by omega) (by omega) (by omega)).mono ?_
    rintro e w2 ⟨k, hk0, hk1, rfl, hg2, hr2⟩
    go_wp2
    go_ret
    exact ⟨k, by omega, by omega, rfl, grown_trans hg1 hg2, hr2⟩
/-- A memory drawn: its lists lie behind the first world's blocks, and nothing that was there has turned. -/
def MemDrawn (w w' : World) (v : Value) (ls : List (List Int)) : Prop := OwnM w' w.heap.size w'.heap.size v ls ∧ ls.length ≤ 12 ∧ (∀ i, i < ls.length → (ls.getD i []).length ≤ 4) ∧ Below w.heap.size w w'
theorem MemDrawn.small {w w' : World} {v : Value} {ls : List (List Int)} (h : MemDrawn w w' v ls) : Small ls := Small.of (by have := h.2.1; omega) (fun i hi => by have := h.2.2.1 i hi; omega)
/-- A reader of the call's own: what lies behind it turns no more. -/
theorem MemDrawn.of {w w1 w2 w3 : World} {v : Value} {ls : List (List Int)} (h1 : w.grownBy w1 none) (hb : w.heap.size < w1.heap.size) (h2 : w1.grownBy w2 (some w.heap.size)) (ho : OwnM w2 w1.heap.size w2.heap.size v ls) (hl : ls.length ≤ 12) (hr : ∀ i, i < ls.length → (ls.getD i []).length ≤ 4)
    (h3 : w2.grownBy w3 (some w.heap.size)) : MemDrawn w w3 v ls := by
  have ho3 := ho.turned (lo' := w.heap.size) (hi' := w.heap.size + 1) (Turned.of_row h3 (fun j e => by have := Option.some.inj e; omega)) (.inr (by omega))
  refine ⟨?_, hl, hr, drawn_below h1 (grown_trans h2 h3)⟩
  obtain ⟨vs, v1, v2⟩ := ho3.mono h3.size
  refine ⟨vs, v1, ⟨?_, v2.top, fun i hi => (v2.own i hi).mono (by omega), v2.apart, v2.each⟩⟩
  rcases v2.row.2 with h | ⟨g, cap, cur, e, hbb, r⟩
  · exact ⟨v2.row.1, .inl h⟩
  · exact ⟨v2.row.1, .inr ⟨g, cap, cur, e, by omega, r⟩⟩
/-- A new row of three numbers, and a place in it. -/
def VArr3 (br : Nat) (u : Value) (w : World) : Prop := ∃ b, u = .slice (some ⟨b, 0, none⟩) 3 3 ∧ b ≠ br ∧ ∀ i, i < 3 → ∃ v : Int, w.cell? ⟨b, i, none⟩ = some (.int .i64 v)
def VArrP (br : Nat) (u : Value) (w : World) : Prop := ∃ (b i : Nat) (v : Int), u = .pointer (some ⟨b, i, none⟩) ∧ b ≠ br ∧ w.cell? ⟨b, i, none⟩ = some (.int .i64 v)
theorem VArr3.kept {br : Nat} {u : Value} {w w' : World} (h : VArr3 br u w) (hg : w.grownBy w' (some br)) : VArr3 br u w' := by
  obtain ⟨b, h1, h2, h3⟩ := h
  refine ⟨b, h1, h2, fun i hi => ?_⟩
  obtain ⟨v, hc⟩ := h3 i hi
  exact ⟨v, hg.cell hc (fun e => h2 (Option.some.inj e))⟩
theorem VArrP.kept {br : Nat} {u : Value} {w w' : World} (h : VArrP br u w) (hg : w.grownBy w' (some br)) : VArrP br u w' := by
  obtain ⟨b, i, v, h1, h2, hc⟩ := h
  exact ⟨b, i, v, h1, h2, hg.cell hc (fun e => h2 (Option.some.inj e))⟩
theorem arr3New (x y z : Int) (W : World) {br : Nat} (hlt : br < W.heap.size) : VArr3 br (.slice (some ⟨W.heap.size, 0, none⟩) 3 3) (W.alloc (.cells #[.int .i64 x, .int .i64 y, .int .i64 z] 3)) := by
  refine ⟨W.heap.size, rfl, by omega, fun i hi => ?_⟩
  have : i = 0 ∨ i = 1 ∨ i = 2 := by omega
  rcases this with rfl | rfl | rfl
  · exact ⟨x, cell_new _ _ _ _ _ rfl⟩
  · exact ⟨y, cell_new _ _ _ _ _ rfl⟩
  · exact ⟨z, cell_new _ _ _ _ _ rfl⟩
/-- The reader alone, between the parts of a statement. -/
def AtR (w5 : World) (br q : Nat) (w : World) : Prop := w5.grownBy w (some br) ∧ Rdr w br q
theorem AtR.alloc {w5 w : World} {br q : Nat} (h : AtR w5 br q w) (o : Obj) : AtR w5 br q (w.alloc o) := ⟨grown_alloc h.1 o, h.2.alloc o⟩
theorem AtR.drew {w5 w : World} {br q : Nat} (h : AtR w5 br q w) : AtR w5 br q w.drew := ⟨⟨h.1.os, h.1.tape, h.1.output, h.1.size, h.1.block⟩, h.2.drew⟩
theorem AtR.more {w5 w : World} {br q q' : Nat} (h : AtR w5 br q w) (hq : q ≤ q') : AtR w5 br q' w := ⟨h.1, h.2.mono hq⟩
theorem AtR.call {w5 w w' : World} {br q q' : Nat} (h : AtR w5 br q w) (hg : w.grownBy w' (some br)) (hr : Rdr w' br q') : AtR w5 br q' w' := ⟨grown_trans h.1 hg, hr⟩
set_option maxHeartbeats 400000 in
theorem DrawMemoryValid_c (a : Option Addr) (len cap : Nat) (w : World) (hB : Bytes w w.heap.size a len) (hc : len ≤ cap) (hm : len ≤ maxLen) :
    Calls Try.prog 9 #[.slice a len cap] w fun e w' => ∃ (v : Value) (ls : List (List Int)), e = .returned (v) ∧ MemDrawn w w' v ls := by
  have HB := Lib.hid hB
  clear hB
  go_enter Try.func9, Try.ntmps9
  go_wp2_with fail
  refine (l6Open_c a len cap w HB.out hc hm).mono ?_
  rintro e w1 ⟨rfl, hg1, hr1⟩
  have hlt : w.heap.size < w1.heap.size := hr1.lt
  go_wp2_with fail
  refine (l91Memory_c w.heap.size 0 _ hr1 (by omega)).mono ?_
  rintro e w2 ⟨v, ls, rfl, ho, hl, hrow, hg2, hr2⟩
  have HF : Hid (∀ w3, w2.grownBy w3 (some w.heap.size) → MemDrawn w w3 v ls) := fun w3 h3 => MemDrawn.of hg1 hlt hg2 ho hl hrow h3
  obtain ⟨x, c, rfl, _, _, _⟩ := ho.mem
  clear ho hl hrow hg1 hg2 hr1
  go_wp2
  go_ret
  exact ⟨_, ls, rfl, HF.out _ (grown_refl _ _)⟩
set_option maxHeartbeats 400000 in
theorem DrawMemoryGet_c (a : Option Addr) (len cap : Nat) (w : World) (hB : Bytes w w.heap.size a len) (hc : len ≤ cap) (hm : len ≤ maxLen) :
    Calls Try.prog 12 #[.slice a len cap] w fun e w' => ∃ (v : Value) (ls : List (List Int)) (f t : Int), e = .returned (.tuple #[v, .int .i64 f, .int .i64 t]) ∧ MemDrawn w w' v ls := by
  have HB := Lib.hid hB
  clear hB
  go_enter Try.func12, Try.ntmps12
  go_wp2_with fail
  refine (l6Open_c a len cap w HB.out hc hm).mono ?_
  rintro e w1 ⟨rfl, hg1, hr1⟩
  have hlt : w.heap.size < w1.heap.size := hr1.lt
  go_wp2_with fail
  refine (l91Memory_c w.heap.size 0 _ hr1 (by omega)).mono ?_
  rintro e w2 ⟨v, ls, rfl, ho, hl, hrow, hg2, hr2⟩
  have HF : Hid (∀ w3, w2.grownBy w3 (some w.heap.size) → MemDrawn w w3 v ls) := fun w3 h3 => MemDrawn.of hg1 hlt hg2 ho hl hrow h3
  obtain ⟨x, c, rfl, _, _, _⟩ := ho.mem
  clear ho hl hrow hg1 hg2 hr1
  go_wp2_with fail
  refine (l91Frame_c w.heap.size 500 _ hr2 (by omega)).mono ?_
  rintro e w3 ⟨m3, _, _, rfl, hg3, hr3⟩
  go_wp2_with fail
  refine (l91At_c w.heap.size 502 _ hr3 (by omega)).mono ?_
  rintro e w4 ⟨m4, _, _, rfl, hg4, hr4⟩
  go_wp2
  go_ret3
  exact ⟨_, ls, m3, m4, rfl, HF.out _ (grown_trans hg3 hg4)⟩
set_option maxHeartbeats 400000 in
theorem DrawMemoryCopy_c (a : Option Addr) (len cap : Nat) (w : World) (hB : Bytes w w.heap.size a len) (hc : len ≤ cap) (hm : len ≤ maxLen) :
    Calls Try.prog 20 #[.slice a len cap] w fun e w' => ∃ (v : Value) (ls : List (List Int)) (f t : Int), e = .returned (.tuple #[v, .int .i64 f, .int .i64 t]) ∧ MemDrawn w w' v ls := by
  have HB := Lib.hid hB
  clear hB
  go_enter Try.func20, Try.ntmps20
  go_wp2_with fail
  refine (l6Open_c a len cap w HB.out hc hm).mono ?_
  rintro e w1 ⟨rfl, hg1, hr1⟩
  have hlt : w.heap.size < w1.heap.size := hr1.lt
  go_wp2_with fail
  refine (l91Memory_c w.heap.size 0 _ hr1 (by omega)).mono ?_
  rintro e w2 ⟨v, ls, rfl, ho, hl, hrow, hg2, hr2⟩
  have HF : Hid (∀ w3, w2.grownBy w3 (some w.heap.size) → MemDrawn w w3 v ls) := fun w3 h3 => MemDrawn.of hg1 hlt hg2 ho hl hrow h3
  obtain ⟨x, c, rfl, _, _, _⟩ := ho.mem
  clear ho hl hrow hg1 hg2 hr1
  go_wp2_with fail
  refine (l91Frame_c w.heap.size 500 _ hr2 (by omega)).mono ?_
  rintro e w3 ⟨m3, _, _, rfl, hg3, hr3⟩
  go_wp2_with fail
  refine (l91Frame_c w.heap.size 502 _ hr3 (by omega)).mono ?_
  rintro e w4 ⟨m4, _, _, rfl, hg4, hr4⟩
  go_wp2
  go_ret3
  exact ⟨_, ls, m3, m4, rfl, HF.out _ (grown_trans hg3 hg4)⟩
set_option maxHeartbeats 400000 in
theorem DrawMemoryClear_c (a : Option Addr) (len cap : Nat) (w : World) (hB : Bytes w w.heap.size a len) (hc : len ≤ cap) (hm : len ≤ maxLen) :
    Calls Try.prog 15 #[.slice a len cap] w fun e w' => ∃ (v : Value) (ls : List (List Int)) (f : Int), e = .returned (.tuple #[v, .int .i64 f]) ∧ MemDrawn w w' v ls := by
  have HB := Lib.hid hB
  clear hB
  go_enter Try.func15, Try.ntmps15
  go_wp2_with fail
  refine (l6Open_c a len cap w HB.out hc hm).mono ?_
  rintro e w1 ⟨rfl, hg1, hr1⟩
  have hlt : w.heap.size < w1.heap.size := hr1.lt
  go_wp2_with fail
  refine (l91Memory_c w.heap.size 0 _ hr1 (by omega)).mono ?_
  rintro e w2 ⟨v, ls, rfl, ho, hl, hrow, hg2, hr2⟩
  have HF : Hid (∀ w3, w2.grownBy w3 (some w.heap.size) → MemDrawn w w3 v ls) := fun w3 h3 => MemDrawn.of hg1 hlt hg2 ho hl hrow h3
  obtain ⟨x, c, rfl, _, _, _⟩ := ho.mem
  clear ho hl hrow hg1 hg2 hr1
  go_wp2_with fail
  refine (l91Frame_c w.heap.size 500 _ hr2 (by omega)).mono ?_
  rintro e w3 ⟨m3, _, _, rfl, hg3, hr3⟩
  go_wp2
  go_ret2
  exact ⟨_, ls, m3, rfl, HF.out _ hg3⟩
structure InvPut (P0 V : Value) (a : Option Addr) (len cap : Nat) (w5 : World) (br q : Nat) (f t : Int) (L : Array Bool) (act : Act) (w : World) : Prop where
  ex : ∃ u21 u22 u23 u24 u25 u26 u27 u28 u2 u3 u4 u5 : Value, act = ⟨#[.slice a len cap, undef, u2, u3, u4, u5, P0, V, .int .i64 f, .int .i64 t, .slice a len cap, P0, P0, V, P0, .int .i64 f, P0, .int .i64 t, P0, .int .i64 0, .bool true, u21, u22, u23, u24, u25, u26, u27, u28, undef, undef, undef, undef, undef], []⟩ ∧ AtR w5 br (q + 3 * ((L.getD 5 false).toNat)) w ∧
    (L.getD 0 false = true → u21 = V) ∧
    (L.getD 1 false = true → u22 = .int .i64 f) ∧
    (L.getD 2 false = true → u23 = .int .i64 t) ∧
    (L.getD 3 false = true → VArr3 br u24 w) ∧
    (L.getD 4 false = true → u25 = P0) ∧
    (L.getD 5 false = true → VInt 0 2 u26) ∧
    (L.getD 6 false = true → VArrP br u27 w) ∧
    (L.getD 7 false = true → AnyInt u28) ∧
    (L.getD 8 false = true → u2 = V) ∧
    (L.getD 9 false = true → u3 = .int .i64 f) ∧
    (L.getD 10 false = true → u4 = .int .i64 t) ∧
    (L.getD 11 false = true → AnyInt u5)
set_option maxHeartbeats 400000 in
theorem DrawMemoryPut_c (a : Option Addr) (len cap : Nat) (w : World) (hB : Bytes w w.heap.size a len) (hc : len ≤ cap) (hm : len ≤ maxLen) :
    Calls Try.prog 23 #[.slice a len cap] w fun e w' => ∃ (v : Value) (ls : List (List Int)) (f t n : Int), e = .returned (.tuple #[v, .int .i64 f, .int .i64 t, .int .i64 n]) ∧ MemDrawn w w' v ls := by
  have HB := Lib.hid hB
  clear hB
  go_enter Try.func23, Try.ntmps23
  go_wp2_with fail
  refine (l6Open_c a len cap w HB.out hc hm).mono ?_
  rintro e w1 ⟨rfl, hg1, hr1⟩
  have hlt : w.heap.size < w1.heap.size := hr1.lt
  go_wp2_with fail
  refine (l91Memory_c w.heap.size 0 _ hr1 (by omega)).mono ?_
  rintro e w2 ⟨v, ls, rfl, ho, hl, hrow, hg2, hr2⟩
  have HF : Hid (∀ w3, w2.grownBy w3 (some w.heap.size) → MemDrawn w w3 v ls) := fun w3 h3 => MemDrawn.of hg1 hlt hg2 ho hl hrow h3
  obtain ⟨x, c, rfl, _, _, _⟩ := ho.mem
  clear ho hl hrow hg1 hg2 hr1
  go_wp2_with fail
  refine (l91Frame_c w.heap.size 500 _ hr2 (by omega)).mono ?_
  rintro e w3 ⟨m3, _, _, rfl, hg3, hr3⟩
  go_wp2_with fail
  refine (l91At_c w.heap.size 502 _ hr3 (by omega)).mono ?_
  rintro e w4 ⟨m4, _, _, rfl, hg4, hr4⟩
  go_wp2_with fail
  refine (pick_c w.heap.size 504 12 _ hr4 (by omega) (by omega) (by omega)).mono ?_
  rintro e w5 ⟨m5, k0, k1, rfl, hg5, hr5⟩
  by_cases hm5 : m5 = 0
  · subst hm5
    have HA : Hid (AtR w5 w.heap.size 505 w5) := ⟨grown_refl _ _, hr5⟩
    have HH : Hid (∀ W, w5.grownBy W (some w.heap.size) → MemDrawn w W (.slice x ls.length c) ls) := fun W hW => HF.out W (grown_trans (grown_trans (grown_trans hg3 hg4) hg5) hW)
    clear hg3 hg4 hg5 hr5
    go_wp2_with fail
    refine wp_region_inv (by kernel_rfl) (InvPut (.pointer (some ⟨w.heap.size, 0, none⟩)) (.slice x ls.length c) a len cap w5 w.heap.size 505 m3 m4) (by kernel_rfl) ?_ ?_ ?_
    · exact ⟨_, _, _, _, _, _, _, _, _, _, _, _, rfl, HA.out.drew.more (by omega), by simp, by simp, by simp, by simp, by simp, by simp, by simp, by simp, by simp, by simp, by simp, by simp⟩
    · rintro L act W i hs ⟨u21, u22, u23, u24, u25, u26, u27, u28, u2, u3, u4, u5, rfl, hG, p0, p1, p2, p3, p4, p5, p6, p7, p8, p9, p10, p11⟩ hi hl hd
      have hi' : i < 12 := hi
      have hc' : i = 0 ∨ i = 1 ∨ i = 2 ∨ i = 3 ∨ i = 4 ∨ i = 5 ∨ i = 6 ∨ i = 7 ∨ i = 8 ∨ i = 9 ∨ i = 10 ∨ i = 11 := by omega
      rcases hc' with rfl | rfl | rfl | rfl | rfl | rfl | rfl | rfl | rfl | rfl | rfl | rfl
      · have hLf : L.getD 0 false = false := getD_false hl (by rw [hs]; decide)
        have hsz : 0 < L.size := by rw [hs]; decide
        have OL : ∀ j, j ≠ 0 → (L.setIfInBounds 0 true).getD j false = true → L.getD j false = true := fun j hj h => by rw [getD_setB _ _ _ _ hsz, if_neg hj] at h; exact h
        have hN : ((L.setIfInBounds 0 true).getD 5 false).toNat = (L.getD 5 false).toNat := by
          rw [getD_setB _ _ _ _ hsz, if_neg (by decide)]
        have ST0 := p0
        have ST1 := p1
        have ST2 := p2
        have ST3 := p3
        have ST4 := p4
        have ST5 := p5
        have ST6 := p6
        have ST7 := p7
        have ST8 := p8
        have ST9 := p9
        have ST10 := p10
        have ST11 := p11
        refine wpOp_run rfl rfl fun K hK => ?_
        clear hd hs hi hl
        go_simp
        refine hK _ _ ⟨_, _, _, _, _, _, _, _, _, _, _, _, rfl, by rw [hN]; exact hG, fun _ => rfl, fun h => ST1 (OL 1 (by decide) h), fun h => ST2 (OL 2 (by decide) h), fun h => ST3 (OL 3 (by decide) h), fun h => ST4 (OL 4 (by decide) h), fun h => ST5 (OL 5 (by decide) h), fun h => ST6 (OL 6 (by decide) h), fun h => ST7 (OL 7 (by decide) h), fun h => ST8 (OL 8 (by decide) h), fun h => ST9 (OL 9 (by decide) h), fun h => ST10 (OL 10 (by decide) h), fun h => ST11 (OL 11 (by decide) h)⟩
      · have hLf : L.getD 1 false = false := getD_false hl (by rw [hs]; decide)
        have hsz : 1 < L.size := by rw [hs]; decide
        have OL : ∀ j, j ≠ 1 → (L.setIfInBounds 1 true).getD j false = true → L.getD j false = true := fun j hj h => by rw [getD_setB _ _ _ _ hsz, if_neg hj] at h; exact h
        have hN : ((L.setIfInBounds 1 true).getD 5 false).toNat = (L.getD 5 false).toNat := by
          rw [getD_setB _ _ _ _ hsz, if_neg (by decide)]
        have ST0 := p0
        have ST1 := p1
        have ST2 := p2
        have ST3 := p3
        have ST4 := p4
        have ST5 := p5
        have ST6 := p6
        have ST7 := p7
        have ST8 := p8
        have ST9 := p9
        have ST10 := p10
        have ST11 := p11
        refine wpOp_run rfl rfl fun K hK => ?_
        clear hd hs hi hl
        go_simp
        refine hK _ _ ⟨_, _, _, _, _, _, _, _, _, _, _, _, rfl, by rw [hN]; exact hG, fun h => ST0 (OL 0 (by decide) h), fun _ => rfl, fun h => ST2 (OL 2 (by decide) h), fun h => ST3 (OL 3 (by decide) h), fun h => ST4 (OL 4 (by decide) h), fun h => ST5 (OL 5 (by decide) h), fun h => ST6 (OL 6 (by decide) h), fun h => ST7 (OL 7 (by decide) h), fun h => ST8 (OL 8 (by decide) h), fun h => ST9 (OL 9 (by decide) h), fun h => ST10 (OL 10 (by decide) h), fun h => ST11 (OL 11 (by decide) h)⟩
      · have hLf : L.getD 2 false = false := getD_false hl (by rw [hs]; decide)
        have hsz : 2 < L.size := by rw [hs]; decide
        have OL : ∀ j, j ≠ 2 → (L.setIfInBounds 2 true).getD j false = true → L.getD j false = true := fun j hj h => by rw [getD_setB _ _ _ _ hsz, if_neg hj] at h; exact h
        have hN : ((L.setIfInBounds 2 true).getD 5 false).toNat = (L.getD 5 false).toNat := by
          rw [getD_setB _ _ _ _ hsz, if_neg (by decide)]
        have ST0 := p0
        have ST1 := p1
        have ST2 := p2
        have ST3 := p3
        have ST4 := p4
        have ST5 := p5
        have ST6 := p6
        have ST7 := p7
        have ST8 := p8
        have ST9 := p9
        have ST10 := p10
        have ST11 := p11
        refine wpOp_run rfl rfl fun K hK => ?_
        clear hd hs hi hl
        go_simp
        refine hK _ _ ⟨_, _, _, _, _, _, _, _, _, _, _, _, rfl, by rw [hN]; exact hG, fun h => ST0 (OL 0 (by decide) h), fun h => ST1 (OL 1 (by decide) h), fun _ => rfl, fun h => ST3 (OL 3 (by decide) h), fun h => ST4 (OL 4 (by decide) h), fun h => ST5 (OL 5 (by decide) h), fun h => ST6 (OL 6 (by decide) h), fun h => ST7 (OL 7 (by decide) h), fun h => ST8 (OL 8 (by decide) h), fun h => ST9 (OL 9 (by decide) h), fun h => ST10 (OL 10 (by decide) h), fun h => ST11 (OL 11 (by decide) h)⟩
      · have hLf : L.getD 3 false = false := getD_false hl (by rw [hs]; decide)
        have hsz : 3 < L.size := by rw [hs]; decide
        have OL : ∀ j, j ≠ 3 → (L.setIfInBounds 3 true).getD j false = true → L.getD j false = true := fun j hj h => by rw [getD_setB _ _ _ _ hsz, if_neg hj] at h; exact h
        have hN : ((L.setIfInBounds 3 true).getD 5 false).toNat = (L.getD 5 false).toNat := by
          rw [getD_setB _ _ _ _ hsz, if_neg (by decide)]
        have ST0 := p0
        have ST1 := p1
        have ST2 := p2
        have ST3 := fun (o : Obj) h => (p3 h).kept (World.grownBy_alloc W o _)
        have ST4 := p4
        have ST5 := p5
        have ST6 := fun (o : Obj) h => (p6 h).kept (World.grownBy_alloc W o _)
        have ST7 := p7
        have ST8 := p8
        have ST9 := p9
        have ST10 := p10
        have ST11 := p11
        refine wpOp_run rfl rfl fun K hK => ?_
        clear hd hs hi hl
        go_simp
        refine hK _ _ ⟨_, _, _, _, _, _, _, _, _, _, _, _, rfl, by rw [hN]; exact hG.alloc _, fun h => ST0 (OL 0 (by decide) h), fun h => ST1 (OL 1 (by decide) h), fun h => ST2 (OL 2 (by decide) h), fun _ => arr3New _ _ _ W hG.2.lt, fun h => ST4 (OL 4 (by decide) h), fun h => ST5 (OL 5 (by decide) h), fun h => ST6 _ (OL 6 (by decide) h), fun h => ST7 (OL 7 (by decide) h), fun h => ST8 (OL 8 (by decide) h), fun h => ST9 (OL 9 (by decide) h), fun h => ST10 (OL 10 (by decide) h), fun h => ST11 (OL 11 (by decide) h)⟩
      · have hLf : L.getD 4 false = false := getD_false hl (by rw [hs]; decide)
        have hsz : 4 < L.size := by rw [hs]; decide
        have OL : ∀ j, j ≠ 4 → (L.setIfInBounds 4 true).getD j false = true → L.getD j false = true := fun j hj h => by rw [getD_setB _ _ _ _ hsz, if_neg hj] at h; exact h
        have hN : ((L.setIfInBounds 4 true).getD 5 false).toNat = (L.getD 5 false).toNat := by
          rw [getD_setB _ _ _ _ hsz, if_neg (by decide)]
        have ST0 := p0
        have ST1 := p1
        have ST2 := p2
        have ST3 := p3
        have ST4 := p4
        have ST5 := p5
        have ST6 := p6
        have ST7 := p7
        have ST8 := p8
        have ST9 := p9
        have ST10 := p10
        have ST11 := p11
        refine wpOp_run rfl rfl fun K hK => ?_
        clear hd hs hi hl
        go_simp
        refine hK _ _ ⟨_, _, _, _, _, _, _, _, _, _, _, _, rfl, by rw [hN]; exact hG, fun h => ST0 (OL 0 (by decide) h), fun h => ST1 (OL 1 (by decide) h), fun h => ST2 (OL 2 (by decide) h), fun h => ST3 (OL 3 (by decide) h), fun _ => rfl, fun h => ST5 (OL 5 (by decide) h), fun h => ST6 (OL 6 (by decide) h), fun h => ST7 (OL 7 (by decide) h), fun h => ST8 (OL 8 (by decide) h), fun h => ST9 (OL 9 (by decide) h), fun h => ST10 (OL 10 (by decide) h), fun h => ST11 (OL 11 (by decide) h)⟩
      · have hLf : L.getD 5 false = false := getD_false hl (by rw [hs]; decide)
        have hsz : 5 < L.size := by rw [hs]; decide
        have OL : ∀ j, j ≠ 5 → (L.setIfInBounds 5 true).getD j false = true → L.getD j false = true := fun j hj h => by rw [getD_setB _ _ _ _ hsz, if_neg hj] at h; exact h
        have hN : ((L.setIfInBounds 5 true).getD 5 false).toNat = (L.getD 5 false).toNat + 1 := by
          rw [getD_setB _ _ _ _ hsz, if_pos rfl, hLf]; simp; try omega
        have d4 := hd _ rfl ⟨4, .data⟩ (by simp) rfl
        obtain rfl := p4 d4
        refine wpOp_run rfl rfl fun K hK => ?_
        clear hd hs hi hl
        go_simp
        refine (pick_c _ _ 3 _ hG.2 (by have := Bool.toNat_le (c := L.getD 5 false); omega) (by omega) (by omega)).mono ?_
        rintro e W2 ⟨k3, k30, k31, rfl, hgk, hrk⟩
        have ST0 := p0
        have ST1 := p1
        have ST2 := p2
        have ST3 := fun h => (p3 h).kept hgk
        have ST4 := p4
        have ST5 := p5
        have ST6 := fun h => (p6 h).kept hgk
        have ST7 := p7
        have ST8 := p8
        have ST9 := p9
        have ST10 := p10
        have ST11 := p11
        refine hK _ _ ⟨_, _, _, _, _, _, _, _, _, _, _, _, rfl, by rw [hN]; exact (hG.call hgk hrk).more (by omega), fun h => ST0 (OL 0 (by decide) h), fun h => ST1 (OL 1 (by decide) h), fun h => ST2 (OL 2 (by decide) h), fun h => ST3 (OL 3 (by decide) h), fun h => ST4 (OL 4 (by decide) h), fun _ => ⟨k3, rfl, k30, by omega⟩, fun h => ST6 (OL 6 (by decide) h), fun h => ST7 (OL 7 (by decide) h), fun h => ST8 (OL 8 (by decide) h), fun h => ST9 (OL 9 (by decide) h), fun h => ST10 (OL 10 (by decide) h), fun h => ST11 (OL 11 (by decide) h)⟩
      · have hLf : L.getD 6 false = false := getD_false hl (by rw [hs]; decide)
        have hsz : 6 < L.size := by rw [hs]; decide
        have OL : ∀ j, j ≠ 6 → (L.setIfInBounds 6 true).getD j false = true → L.getD j false = true := fun j hj h => by rw [getD_setB _ _ _ _ hsz, if_neg hj] at h; exact h
        have hN : ((L.setIfInBounds 6 true).getD 5 false).toNat = (L.getD 5 false).toNat := by
          rw [getD_setB _ _ _ _ hsz, if_neg (by decide)]
        have d3 := hd _ rfl ⟨3, .data⟩ (by simp) rfl
        have d5 := hd _ rfl ⟨5, .data⟩ (by simp) rfl
        obtain ⟨b, rfl, hb, hcs⟩ := p3 d3
        obtain ⟨k3, rfl, k30, k31⟩ := p5 d5
        obtain ⟨v, hcell⟩ := hcs k3.toNat (by omega)
        have k32 : k3 < 3 := by omega
        have ST0 := p0
        have ST1 := p1
        have ST2 := p2
        have ST3 := p3
        have ST4 := p4
        have ST5 := p5
        have ST6 := p6
        have ST7 := p7
        have ST8 := p8
        have ST9 := p9
        have ST10 := p10
        have ST11 := p11
        refine wpOp_run rfl rfl fun K hK => ?_
        clear hd hs hi hl
        go_simp
        refine hK _ _ ⟨_, _, _, _, _, _, _, _, _, _, _, _, rfl, by rw [hN]; exact hG, fun h => ST0 (OL 0 (by decide) h), fun h => ST1 (OL 1 (by decide) h), fun h => ST2 (OL 2 (by decide) h), fun h => ST3 (OL 3 (by decide) h), fun h => ST4 (OL 4 (by decide) h), fun h => ST5 (OL 5 (by decide) h), fun _ => ⟨b, k3.toNat, v, rfl, hb, hcell⟩, fun h => ST7 (OL 7 (by decide) h), fun h => ST8 (OL 8 (by decide) h), fun h => ST9 (OL 9 (by decide) h), fun h => ST10 (OL 10 (by decide) h), fun h => ST11 (OL 11 (by decide) h)⟩
      · have hLf : L.getD 7 false = false := getD_false hl (by rw [hs]; decide)
        have hsz : 7 < L.size := by rw [hs]; decide
        have OL : ∀ j, j ≠ 7 → (L.setIfInBounds 7 true).getD j false = true → L.getD j false = true := fun j hj h => by rw [getD_setB _ _ _ _ hsz, if_neg hj] at h; exact h
        have hN : ((L.setIfInBounds 7 true).getD 5 false).toNat = (L.getD 5 false).toNat := by
          rw [getD_setB _ _ _ _ hsz, if_neg (by decide)]
        have d6 := hd _ rfl ⟨6, .data⟩ (by simp) rfl
        obtain ⟨b, i, v, rfl, hb, hcell⟩ := p6 d6
        have ST0 := p0
        have ST1 := p1
        have ST2 := p2
        have ST3 := p3
        have ST4 := p4
        have ST5 := p5
        have ST6 := p6
        have ST7 := p7
        have ST8 := p8
        have ST9 := p9
        have ST10 := p10
        have ST11 := p11
        refine wpOp_run rfl rfl fun K hK => ?_
        clear hd hs hi hl
        go_simp
        refine hK _ _ ⟨_, _, _, _, _, _, _, _, _, _, _, _, rfl, by rw [hN]; exact hG, fun h => ST0 (OL 0 (by decide) h), fun h => ST1 (OL 1 (by decide) h), fun h => ST2 (OL 2 (by decide) h), fun h => ST3 (OL 3 (by decide) h), fun h => ST4 (OL 4 (by decide) h), fun h => ST5 (OL 5 (by decide) h), fun h => ST6 (OL 6 (by decide) h), fun _ => ⟨v, rfl⟩, fun h => ST8 (OL 8 (by decide) h), fun h => ST9 (OL 9 (by decide) h), fun h => ST10 (OL 10 (by decide) h), fun h => ST11 (OL 11 (by decide) h)⟩
      · have hLf : L.getD 8 false = false := getD_false hl (by rw [hs]; decide)
        have hsz : 8 < L.size := by rw [hs]; decide
        have OL : ∀ j, j ≠ 8 → (L.setIfInBounds 8 true).getD j false = true → L.getD j false = true := fun j hj h => by rw [getD_setB _ _ _ _ hsz, if_neg hj] at h; exact h
        have hN : ((L.setIfInBounds 8 true).getD 5 false).toNat = (L.getD 5 false).toNat := by
          rw [getD_setB _ _ _ _ hsz, if_neg (by decide)]
        have d0 := hd _ rfl ⟨0, .data⟩ (by simp) rfl
        obtain rfl := p0 d0
        have ST0 := p0
        have ST1 := p1
        have ST2 := p2
        have ST3 := p3
        have ST4 := p4
        have ST5 := p5
        have ST6 := p6
        have ST7 := p7
        have ST8 := p8
        have ST9 := p9
        have ST10 := p10
        have ST11 := p11
        refine wpOp_run rfl rfl fun K hK => ?_
        clear hd hs hi hl
        go_simp
        refine hK _ _ ⟨_, _, _, _, _, _, _, _, _, _, _, _, rfl, by rw [hN]; exact hG, fun h => ST0 (OL 0 (by decide) h), fun h => ST1 (OL 1 (by decide) h), fun h => ST2 (OL 2 (by decide) h), fun h => ST3 (OL 3 (by decide) h), fun h => ST4 (OL 4 (by decide) h), fun h => ST5 (OL 5 (by decide) h), fun h => ST6 (OL 6 (by decide) h), fun h => ST7 (OL 7 (by decide) h), fun _ => rfl, fun h => ST9 (OL 9 (by decide) h), fun h => ST10 (OL 10 (by decide) h), fun h => ST11 (OL 11 (by decide) h)⟩
      · have hLf : L.getD 9 false = false := getD_false hl (by rw [hs]; decide)
        have hsz : 9 < L.size := by rw [hs]; decide
        have OL : ∀ j, j ≠ 9 → (L.setIfInBounds 9 true).getD j false = true → L.getD j false = true := fun j hj h => by rw [getD_setB _ _ _ _ hsz, if_neg hj] at h; exact h
        have hN : ((L.setIfInBounds 9 true).getD 5 false).toNat = (L.getD 5 false).toNat := by
          rw [getD_setB _ _ _ _ hsz, if_neg (by decide)]
        have d1 := hd _ rfl ⟨1, .data⟩ (by simp) rfl
        obtain rfl := p1 d1
        have ST0 := p0
        have ST1 := p1
        have ST2 := p2
        have ST3 := p3
        have ST4 := p4
        have ST5 := p5
        have ST6 := p6
        have ST7 := p7
        have ST8 := p8
        have ST9 := p9
        have ST10 := p10
        have ST11 := p11
        refine wpOp_run rfl rfl fun K hK => ?_
        clear hd hs hi hl
        go_simp
        refine hK _ _ ⟨_, _, _, _, _, _, _, _, _, _, _, _, rfl, by rw [hN]; exact hG, fun h => ST0 (OL 0 (by decide) h), fun h => ST1 (OL 1 (by decide) h), fun h => ST2 (OL 2 (by decide) h), fun h => ST3 (OL 3 (by decide) h), fun h => ST4 (OL 4 (by decide) h), fun h => ST5 (OL 5 (by decide) h), fun h => ST6 (OL 6 (by decide) h), fun h => ST7 (OL 7 (by decide) h), fun h => ST8 (OL 8 (by decide) h), fun _ => rfl, fun h => ST10 (OL 10 (by decide) h), fun h => ST11 (OL 11 (by decide) h)⟩
      · have hLf : L.getD 10 false = false := getD_false hl (by rw [hs]; decide)
        have hsz : 10 < L.size := by rw [hs]; decide
        have OL : ∀ j, j ≠ 10 → (L.setIfInBounds 10 true).getD j false = true → L.getD j false = true := fun j hj h => by rw [getD_setB _ _ _ _ hsz, if_neg hj] at h; exact h
        have hN : ((L.setIfInBounds 10 true).getD 5 false).toNat = (L.getD 5 false).toNat := by
          rw [getD_setB _ _ _ _ hsz, if_neg (by decide)]
        have d2 := hd _ rfl ⟨2, .data⟩ (by simp) rfl
        obtain rfl := p2 d2
        have ST0 := p0
        have ST1 := p1
        have ST2 := p2
        have ST3 := p3
        have ST4 := p4
        have ST5 := p5
        have ST6 := p6
        have ST7 := p7
        have ST8 := p8
        have ST9 := p9
        have ST10 := p10
        have ST11 := p11
        refine wpOp_run rfl rfl fun K hK => ?_
        clear hd hs hi hl
        go_simp
        refine hK _ _ ⟨_, _, _, _, _, _, _, _, _, _, _, _, rfl, by rw [hN]; exact hG, fun h => ST0 (OL 0 (by decide) h), fun h => ST1 (OL 1 (by decide) h), fun h => ST2 (OL 2 (by decide) h), fun h => ST3 (OL 3 (by decide) h), fun h => ST4 (OL 4 (by decide) h), fun h => ST5 (OL 5 (by decide) h), fun h => ST6 (OL 6 (by decide) h), fun h => ST7 (OL 7 (by decide) h), fun h => ST8 (OL 8 (by decide) h), fun h => ST9 (OL 9 (by decide) h), fun _ => rfl, fun h => ST11 (OL 11 (by decide) h)⟩
      · have hLf : L.getD 11 false = false := getD_false hl (by rw [hs]; decide)
        have hsz : 11 < L.size := by rw [hs]; decide
        have OL : ∀ j, j ≠ 11 → (L.setIfInBounds 11 true).getD j false = true → L.getD j false = true := fun j hj h => by rw [getD_setB _ _ _ _ hsz, if_neg hj] at h; exact h
        have hN : ((L.setIfInBounds 11 true).getD 5 false).toNat = (L.getD 5 false).toNat := by
          rw [getD_setB _ _ _ _ hsz, if_neg (by decide)]
        have d7 := hd _ rfl ⟨7, .data⟩ (by simp) rfl
        obtain ⟨x, rfl⟩ := p7 d7
        have ST0 := p0
        have ST1 := p1
        have ST2 := p2
        have ST3 := p3
        have ST4 := p4
        have ST5 := p5
        have ST6 := p6
        have ST7 := p7
        have ST8 := p8
        have ST9 := p9
        have ST10 := p10
        have ST11 := p11
        refine wpOp_run rfl rfl fun K hK => ?_
        clear hd hs hi hl
        go_simp
        refine hK _ _ ⟨_, _, _, _, _, _, _, _, _, _, _, _, rfl, by rw [hN]; exact hG, fun h => ST0 (OL 0 (by decide) h), fun h => ST1 (OL 1 (by decide) h), fun h => ST2 (OL 2 (by decide) h), fun h => ST3 (OL 3 (by decide) h), fun h => ST4 (OL 4 (by decide) h), fun h => ST5 (OL 5 (by decide) h), fun h => ST6 (OL 6 (by decide) h), fun h => ST7 (OL 7 (by decide) h), fun h => ST8 (OL 8 (by decide) h), fun h => ST9 (OL 9 (by decide) h), fun h => ST10 (OL 10 (by decide) h), fun _ => ⟨x, rfl⟩⟩
    · rintro L act W ⟨u21, u22, u23, u24, u25, u26, u27, u28, u2, u3, u4, u5, rfl, hG, p0, p1, p2, p3, p4, p5, p6, p7, p8, p9, p10, p11⟩ hall
      have q8 := p8 (hall 8 (by decide))
      have q9 := p9 (hall 9 (by decide))
      have q10 := p10 (hall 10 (by decide))
      obtain ⟨z, q11⟩ := p11 (hall 11 (by decide))
      subst q8 q9 q10 q11
      have HE := Lib.hid (HH.out W hG.1)
      clear hG hall p0 p1 p2 p3 p4 p5 p6 p7 p8 p9 p10 p11
      go_wp2_with fail
      refine bodyPost_ret (v := .tuple #[.slice x ls.length c, .int .i64 m3, .int .i64 m4, .int .i64 z]) (by simp [results, Try.results23, go_sem]) rfl ?_
      exact ⟨_, ls, m3, m4, z, rfl, HE.out⟩
  · have hm' : (m5 == 0) = false := by simpa using hm5
    go_wp2_with fail
    refine (pick_c w.heap.size 505 100 _ hr5 (by omega) (by omega) (by omega)).mono ?_
    rintro e w6 ⟨k, hk0, hk1, rfl, hg6, hr6⟩
    go_wp2
    refine bodyPost_ret (v := .tuple #[.slice x ls.length c, .int .i64 m3, .int .i64 m4, .int .i64 k]) (by simp [results, Try.results23, go_sem]) rfl ?_
    exact ⟨_, ls, m3, m4, k, rfl, HF.out _ (grown_trans (grown_trans (grown_trans hg3 hg4) hg5) hg6)⟩
end Go.Proofs.Ytjmlfjpocjmnpaa
