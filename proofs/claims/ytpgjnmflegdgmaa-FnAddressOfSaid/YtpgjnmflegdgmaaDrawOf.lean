/-
  The drawing of a page and a place: a statement whose order is open, by an invariant. No conditions.
-/
import Derived.Test.YtpgjnmflegdgmaaRd
import Derived.Test.YtpgjnmflegdgmaaInv
namespace Go.Proofs.Ytpgjnmflegdgmaa
open Go.RowKit

/-- A row of n numbers that the call itself laid. -/
def VArr (br n : Nat) (u : Value) (w : World) : Prop := ∃ b, u = .slice (some ⟨b, 0, none⟩) n n ∧ b ≠ br ∧ ∀ i, i < n → ∃ v : Int, -1 ≤ v ∧ v ≤ 10000 ∧ w.cell? ⟨b, i, none⟩ = some (.int .i64 v)
/-- A place of such a row. -/
def VPtr (br : Nat) (u : Value) (w : World) : Prop := ∃ (b i : Nat) (v : Int), u = .pointer (some ⟨b, i, none⟩) ∧ b ≠ br ∧ -1 ≤ v ∧ v ≤ 10000 ∧ w.cell? ⟨b, i, none⟩ = some (.int .i64 v)
def VInt (lo hi : Int) (u : Value) : Prop := ∃ v : Int, u = .int .i64 v ∧ lo ≤ v ∧ v ≤ hi
theorem VArr.kept {br n : Nat} {u : Value} {w w' : World} (h : VArr br n u w) (hg : w.grownBy w' (some br)) : VArr br n u w' := by
  obtain ⟨b, h1, h2, h3⟩ := h
  refine ⟨b, h1, h2, fun i hi => ?_⟩
  obtain ⟨v, v0, v1, hc⟩ := h3 i hi
  exact ⟨v, v0, v1, hg.cell hc (fun e => h2 (Option.some.inj e))⟩
theorem VPtr.kept {br : Nat} {u : Value} {w w' : World} (h : VPtr br u w) (hg : w.grownBy w' (some br)) : VPtr br u w' := by
  obtain ⟨b, i, v, h1, h2, v0, v1, hc⟩ := h
  exact ⟨b, i, v, h1, h2, v0, v1, hg.cell hc (fun e => h2 (Option.some.inj e))⟩

theorem getD_false {L : Array Bool} {i : Nat} (h : L.getD i true = false) (hi : i < L.size) : L.getD i false = false := by
  rw [Array.getD_eq_getD_getElem?, Array.getElem?_eq_getElem hi] at h ⊢
  exact h
theorem two_bools (a b : Bool) : 10 + a.toNat + b.toNat ≤ 12 := by cases a <;> cases b <;> simp
theorem arr3 (x y z : Int) (hb : -1 ≤ x ∧ x ≤ 10000 ∧ -1 ≤ y ∧ y ≤ 10000 ∧ -1 ≤ z ∧ z ≤ 10000) (W : World) {br : Nat} (hlt : br < W.heap.size) : VArr br 3 (.slice (some ⟨W.heap.size, 0, none⟩) 3 3) (W.alloc (.cells #[.int .i64 x, .int .i64 y, .int .i64 z] 3)) := by
  refine ⟨W.heap.size, rfl, by omega, fun i hi => ?_⟩
  have : i = 0 ∨ i = 1 ∨ i = 2 := by omega
  rcases this with rfl | rfl | rfl
  · exact ⟨x, hb.1, hb.2.1, cell_new _ _ _ _ _ rfl⟩
  · exact ⟨y, hb.2.2.1, hb.2.2.2.1, cell_new _ _ _ _ _ rfl⟩
  · exact ⟨z, hb.2.2.2.2.1, hb.2.2.2.2.2, cell_new _ _ _ _ _ rfl⟩
theorem grown_undrew {w w' : World} {r : Option Nat} (h : w.drew.grownBy w' r) : w.grownBy w' r := ⟨h.os, h.tape, h.output, h.size, h.block⟩
structure InvOf (P0 : Value) (a : Option Addr) (len cap : Nat) (g0 : Value) (w0 : World) (br : Nat) (L : Array Bool) (act : Act) (w : World) : Prop where
  ex : ∃ u2 u3 u11 u12 u13 u14 u15 u16 u17 u18 u19 u20 : Value,
    act = ⟨#[.slice a len cap, undef, u2, u3, P0, undef, .slice a len cap, P0, P0, g0, .bool true, u11, u12, u13, u14, u15, u16, u17, u18, u19, u20, undef, undef, undef, undef, undef], []⟩ ∧
    w0.grownBy w (some br) ∧ Rdr w br (10 + (L.getD 2 false).toNat + (L.getD 7 false).toNat) ∧
    (L.getD 0 false = true → VArr br 3 u11 w) ∧ (L.getD 1 false = true → u12 = P0) ∧ (L.getD 2 false = true → VInt 0 2 u13) ∧ (L.getD 3 false = true → VPtr br u14 w) ∧ (L.getD 4 false = true → VInt (-1) 10000 u15) ∧
    (L.getD 5 false = true → VArr br 3 u16 w) ∧ (L.getD 6 false = true → u17 = P0) ∧ (L.getD 7 false = true → VInt 0 2 u18) ∧ (L.getD 8 false = true → VPtr br u19 w) ∧ (L.getD 9 false = true → VInt (-1) 10000 u20) ∧
    (L.getD 10 false = true → VInt (-1) 10000 u2) ∧ (L.getD 11 false = true → VInt (-1) 10000 u3)
set_option maxHeartbeats 1000000 in
theorem DrawAddressOf_c (a : Option Addr) (len cap : Nat) (w : World) (hB : Bytes w w.heap.size a len) (hc : len ≤ cap) (hm : len ≤ maxLen) :
    Calls Try.prog 28 #[.slice a len cap] w fun e w' => ∃ m t : Int, -1 ≤ m ∧ m ≤ 10000 ∧ -1 ≤ t ∧ t ≤ 10000 ∧ e = .returned (.tuple #[.int .i64 m, .int .i64 t]) ∧ Below w.heap.size w w' := by
  have HB := Lib.hid hB
  clear hB
  go_enter Try.func28, Try.ntmps28
  go_wp2_with fail
  refine (l6Open_c a len cap w HB.out hc hm).mono ?_
  rintro e w1 ⟨rfl, hg1, hr1⟩
  go_wp2_with fail
  refine (pick_c w.heap.size 0 10 _ hr1 (by omega) (by omega) (by omega)).mono ?_
  rintro e w2 ⟨m, hm0, hm1, rfl, hg2, hr2⟩
  by_cases hz : m = 0
  · subst hz
    go_wp2_with fail
    refine wp_region_inv (by kernel_rfl) (InvOf (.pointer (some ⟨w.heap.size, 0, none⟩)) a len cap (.int .i64 0) w2.drew w.heap.size) (by kernel_rfl) ?_ ?_ ?_
    · exact ⟨_, _, _, _, _, _, _, _, _, _, _, _, rfl, grown_refl _ _, (hr2.drew).mono (by omega), by simp, by simp, by simp, by simp, by simp, by simp, by simp, by simp, by simp, by simp, by simp, by simp⟩
    · rintro L act W i hs ⟨u2, u3, u11, u12, u13, u14, u15, u16, u17, u18, u19, u20, rfl, hg, hr, p0, p1, p2, p3, p4, p5, p6, p7, p8, p9, p10, p11⟩ hi hl hd
      have hi' : i < 12 := hi
      have hc' : i = 0 ∨ i = 1 ∨ i = 2 ∨ i = 3 ∨ i = 4 ∨ i = 5 ∨ i = 6 ∨ i = 7 ∨ i = 8 ∨ i = 9 ∨ i = 10 ∨ i = 11 := by omega
      rcases hc' with rfl | rfl | rfl | rfl | rfl | rfl | rfl | rfl | rfl | rfl | rfl | rfl
      · have hLf : L.getD 0 false = false := getD_false hl (by rw [hs]; decide)
        have hsz : 0 < L.size := by rw [hs]; decide
        have OL : ∀ j, j ≠ 0 → (L.setIfInBounds 0 true).getD j false = true → L.getD j false = true := fun j hj h => by rw [getD_setB _ _ _ _ hsz, if_neg hj] at h; exact h
        have hN : 10 + ((L.setIfInBounds 0 true).getD 2 false).toNat + ((L.setIfInBounds 0 true).getD 7 false).toNat = 10 + (L.getD 2 false).toNat + (L.getD 7 false).toNat := by
          rw [getD_setB _ _ _ _ hsz, getD_setB _ _ _ _ hsz, if_neg (by decide), if_neg (by decide)]
        have ST0 := fun (o : Obj) h => (p0 h).kept (World.grownBy_alloc W o _)
        have ST1 := p1
        have ST2 := p2
        have ST3 := fun (o : Obj) h => (p3 h).kept (World.grownBy_alloc W o _)
        have ST4 := p4
        have ST5 := fun (o : Obj) h => (p5 h).kept (World.grownBy_alloc W o _)
        have ST6 := p6
        have ST7 := p7
        have ST8 := fun (o : Obj) h => (p8 h).kept (World.grownBy_alloc W o _)
        have ST9 := p9
        have ST10 := p10
        have ST11 := p11
        refine wpOp_run rfl rfl fun K hK => ?_
        clear hd hs hi hl p0 p1 p2 p3 p4 p5 p6 p7 p8 p9 p10 p11
        go_simp
        refine hK _ _ ⟨_, _, _, _, _, _, _, _, _, _, _, _, rfl, grown_alloc hg _, by rw [hN]; exact hr.alloc _, fun _ => arr3 (-1) 16 15 (by decide) W hr.lt, fun h => ST1 (OL 1 (by decide) h), fun h => ST2 (OL 2 (by decide) h), fun h => ST3 _ (OL 3 (by decide) h), fun h => ST4 (OL 4 (by decide) h), fun h => ST5 _ (OL 5 (by decide) h), fun h => ST6 (OL 6 (by decide) h), fun h => ST7 (OL 7 (by decide) h), fun h => ST8 _ (OL 8 (by decide) h), fun h => ST9 (OL 9 (by decide) h), fun h => ST10 (OL 10 (by decide) h), fun h => ST11 (OL 11 (by decide) h)⟩
      · have hLf : L.getD 1 false = false := getD_false hl (by rw [hs]; decide)
        have hsz : 1 < L.size := by rw [hs]; decide
        have OL : ∀ j, j ≠ 1 → (L.setIfInBounds 1 true).getD j false = true → L.getD j false = true := fun j hj h => by rw [getD_setB _ _ _ _ hsz, if_neg hj] at h; exact h
        have hN : 10 + ((L.setIfInBounds 1 true).getD 2 false).toNat + ((L.setIfInBounds 1 true).getD 7 false).toNat = 10 + (L.getD 2 false).toNat + (L.getD 7 false).toNat := by
          rw [getD_setB _ _ _ _ hsz, getD_setB _ _ _ _ hsz, if_neg (by decide), if_neg (by decide)]
        have ST0 := p0
        have ST1 := p1
        have ST2 := p2
        have ST3 := p3
        have ST4 := p4
        have ST5 := p5
        have ST6 := p6
        have ST7 := p7
        have ST8 := p8
        have ST9 := p9
        have ST10 := p10
        have ST11 := p11
        refine wpOp_run rfl rfl fun K hK => ?_
        clear hd hs hi hl
        go_simp
        refine hK _ _ ⟨_, _, _, _, _, _, _, _, _, _, _, _, rfl, hg, by rw [hN]; exact hr, fun h => ST0 (OL 0 (by decide) h), fun _ => rfl, fun h => ST2 (OL 2 (by decide) h), fun h => ST3 (OL 3 (by decide) h), fun h => ST4 (OL 4 (by decide) h), fun h => ST5 (OL 5 (by decide) h), fun h => ST6 (OL 6 (by decide) h), fun h => ST7 (OL 7 (by decide) h), fun h => ST8 (OL 8 (by decide) h), fun h => ST9 (OL 9 (by decide) h), fun h => ST10 (OL 10 (by decide) h), fun h => ST11 (OL 11 (by decide) h)⟩
      · have hLf : L.getD 2 false = false := getD_false hl (by rw [hs]; decide)
        have hsz : 2 < L.size := by rw [hs]; decide
        have OL : ∀ j, j ≠ 2 → (L.setIfInBounds 2 true).getD j false = true → L.getD j false = true := fun j hj h => by rw [getD_setB _ _ _ _ hsz, if_neg hj] at h; exact h
        have hN : 10 + ((L.setIfInBounds 2 true).getD 2 false).toNat + ((L.setIfInBounds 2 true).getD 7 false).toNat = 10 + (L.getD 2 false).toNat + (L.getD 7 false).toNat + 1 := by
          rw [getD_setB _ _ _ _ hsz, getD_setB _ _ _ _ hsz, if_pos rfl, if_neg (by decide), hLf]; simp; try omega
        have d1 := hd _ rfl ⟨1, .data⟩ (by simp) rfl
        obtain rfl := p1 d1
        refine wpOp_run rfl rfl fun K hK => ?_
        clear hd hs hi hl
        go_simp
        refine (pick_c _ _ 3 _ hr (by have := two_bools (L.getD 2 false) (L.getD 7 false); omega) (by omega) (by omega)).mono ?_
        rintro e W2 ⟨k, k0, k1, rfl, hgk, hrk⟩
        have ST0 := fun h => (p0 h).kept hgk
        have ST1 := p1
        have ST2 := p2
        have ST3 := fun h => (p3 h).kept hgk
        have ST4 := p4
        have ST5 := fun h => (p5 h).kept hgk
        have ST6 := p6
        have ST7 := p7
        have ST8 := fun h => (p8 h).kept hgk
        have ST9 := p9
        have ST10 := p10
        have ST11 := p11
        refine hK _ _ ⟨_, _, _, _, _, _, _, _, _, _, _, _, rfl, grown_trans hg hgk, by rw [hN]; exact hrk, fun h => ST0 (OL 0 (by decide) h), fun h => ST1 (OL 1 (by decide) h), fun _ => ⟨k, rfl, k0, by omega⟩, fun h => ST3 (OL 3 (by decide) h), fun h => ST4 (OL 4 (by decide) h), fun h => ST5 (OL 5 (by decide) h), fun h => ST6 (OL 6 (by decide) h), fun h => ST7 (OL 7 (by decide) h), fun h => ST8 (OL 8 (by decide) h), fun h => ST9 (OL 9 (by decide) h), fun h => ST10 (OL 10 (by decide) h), fun h => ST11 (OL 11 (by decide) h)⟩
      · have hLf : L.getD 3 false = false := getD_false hl (by rw [hs]; decide)
        have hsz : 3 < L.size := by rw [hs]; decide
        have OL : ∀ j, j ≠ 3 → (L.setIfInBounds 3 true).getD j false = true → L.getD j false = true := fun j hj h => by rw [getD_setB _ _ _ _ hsz, if_neg hj] at h; exact h
        have hN : 10 + ((L.setIfInBounds 3 true).getD 2 false).toNat + ((L.setIfInBounds 3 true).getD 7 false).toNat = 10 + (L.getD 2 false).toNat + (L.getD 7 false).toNat := by
          rw [getD_setB _ _ _ _ hsz, getD_setB _ _ _ _ hsz, if_neg (by decide), if_neg (by decide)]
        have d0 := hd _ rfl ⟨0, .data⟩ (by simp) rfl
        have d2 := hd _ rfl ⟨2, .data⟩ (by simp) rfl
        obtain ⟨b, rfl, hb, hcs⟩ := p0 d0
        obtain ⟨k, rfl, k0, k1⟩ := p2 d2
        obtain ⟨v, v0, v1, hcell⟩ := hcs k.toNat (by omega)
        have k2 : k < 3 := by omega
        have ST0 := p0
        have ST1 := p1
        have ST2 := p2
        have ST3 := p3
        have ST4 := p4
        have ST5 := p5
        have ST6 := p6
        have ST7 := p7
        have ST8 := p8
        have ST9 := p9
        have ST10 := p10
        have ST11 := p11
        refine wpOp_run rfl rfl fun K hK => ?_
        clear hd hs hi hl
        go_simp
        refine hK _ _ ⟨_, _, _, _, _, _, _, _, _, _, _, _, rfl, hg, by rw [hN]; exact hr, fun h => ST0 (OL 0 (by decide) h), fun h => ST1 (OL 1 (by decide) h), fun h => ST2 (OL 2 (by decide) h), fun _ => ⟨b, k.toNat, v, rfl, hb, v0, v1, hcell⟩, fun h => ST4 (OL 4 (by decide) h), fun h => ST5 (OL 5 (by decide) h), fun h => ST6 (OL 6 (by decide) h), fun h => ST7 (OL 7 (by decide) h), fun h => ST8 (OL 8 (by decide) h), fun h => ST9 (OL 9 (by decide) h), fun h => ST10 (OL 10 (by decide) h), fun h => ST11 (OL 11 (by decide) h)⟩
      · have hLf : L.getD 4 false = false := getD_false hl (by rw [hs]; decide)
        have hsz : 4 < L.size := by rw [hs]; decide
        have OL : ∀ j, j ≠ 4 → (L.setIfInBounds 4 true).getD j false = true → L.getD j false = true := fun j hj h => by rw [getD_setB _ _ _ _ hsz, if_neg hj] at h; exact h
        have hN : 10 + ((L.setIfInBounds 4 true).getD 2 false).toNat + ((L.setIfInBounds 4 true).getD 7 false).toNat = 10 + (L.getD 2 false).toNat + (L.getD 7 false).toNat := by
          rw [getD_setB _ _ _ _ hsz, getD_setB _ _ _ _ hsz, if_neg (by decide), if_neg (by decide)]
        have d3 := hd _ rfl ⟨3, .data⟩ (by simp) rfl
        obtain ⟨b, i, v, rfl, hb, v0, v1, hcell⟩ := p3 d3
        have ST0 := p0
        have ST1 := p1
        have ST2 := p2
        have ST3 := p3
        have ST4 := p4
        have ST5 := p5
        have ST6 := p6
        have ST7 := p7
        have ST8 := p8
        have ST9 := p9
        have ST10 := p10
        have ST11 := p11
        refine wpOp_run rfl rfl fun K hK => ?_
        clear hd hs hi hl
        go_simp
        refine hK _ _ ⟨_, _, _, _, _, _, _, _, _, _, _, _, rfl, hg, by rw [hN]; exact hr, fun h => ST0 (OL 0 (by decide) h), fun h => ST1 (OL 1 (by decide) h), fun h => ST2 (OL 2 (by decide) h), fun h => ST3 (OL 3 (by decide) h), fun _ => ⟨v, rfl, v0, v1⟩, fun h => ST5 (OL 5 (by decide) h), fun h => ST6 (OL 6 (by decide) h), fun h => ST7 (OL 7 (by decide) h), fun h => ST8 (OL 8 (by decide) h), fun h => ST9 (OL 9 (by decide) h), fun h => ST10 (OL 10 (by decide) h), fun h => ST11 (OL 11 (by decide) h)⟩
      · have hLf : L.getD 5 false = false := getD_false hl (by rw [hs]; decide)
        have hsz : 5 < L.size := by rw [hs]; decide
        have OL : ∀ j, j ≠ 5 → (L.setIfInBounds 5 true).getD j false = true → L.getD j false = true := fun j hj h => by rw [getD_setB _ _ _ _ hsz, if_neg hj] at h; exact h
        have hN : 10 + ((L.setIfInBounds 5 true).getD 2 false).toNat + ((L.setIfInBounds 5 true).getD 7 false).toNat = 10 + (L.getD 2 false).toNat + (L.getD 7 false).toNat := by
          rw [getD_setB _ _ _ _ hsz, getD_setB _ _ _ _ hsz, if_neg (by decide), if_neg (by decide)]
        have ST0 := fun (o : Obj) h => (p0 h).kept (World.grownBy_alloc W o _)
        have ST1 := p1
        have ST2 := p2
        have ST3 := fun (o : Obj) h => (p3 h).kept (World.grownBy_alloc W o _)
        have ST4 := p4
        have ST5 := fun (o : Obj) h => (p5 h).kept (World.grownBy_alloc W o _)
        have ST6 := p6
        have ST7 := p7
        have ST8 := fun (o : Obj) h => (p8 h).kept (World.grownBy_alloc W o _)
        have ST9 := p9
        have ST10 := p10
        have ST11 := p11
        refine wpOp_run rfl rfl fun K hK => ?_
        clear hd hs hi hl p0 p1 p2 p3 p4 p5 p6 p7 p8 p9 p10 p11
        go_simp
        refine hK _ _ ⟨_, _, _, _, _, _, _, _, _, _, _, _, rfl, grown_alloc hg _, by rw [hN]; exact hr.alloc _, fun h => ST0 _ (OL 0 (by decide) h), fun h => ST1 (OL 1 (by decide) h), fun h => ST2 (OL 2 (by decide) h), fun h => ST3 _ (OL 3 (by decide) h), fun h => ST4 (OL 4 (by decide) h), fun _ => arr3 (-1) 4 3 (by decide) W hr.lt, fun h => ST6 (OL 6 (by decide) h), fun h => ST7 (OL 7 (by decide) h), fun h => ST8 _ (OL 8 (by decide) h), fun h => ST9 (OL 9 (by decide) h), fun h => ST10 (OL 10 (by decide) h), fun h => ST11 (OL 11 (by decide) h)⟩
      · have hLf : L.getD 6 false = false := getD_false hl (by rw [hs]; decide)
        have hsz : 6 < L.size := by rw [hs]; decide
        have OL : ∀ j, j ≠ 6 → (L.setIfInBounds 6 true).getD j false = true → L.getD j false = true := fun j hj h => by rw [getD_setB _ _ _ _ hsz, if_neg hj] at h; exact h
        have hN : 10 + ((L.setIfInBounds 6 true).getD 2 false).toNat + ((L.setIfInBounds 6 true).getD 7 false).toNat = 10 + (L.getD 2 false).toNat + (L.getD 7 false).toNat := by
          rw [getD_setB _ _ _ _ hsz, getD_setB _ _ _ _ hsz, if_neg (by decide), if_neg (by decide)]
        have ST0 := p0
        have ST1 := p1
        have ST2 := p2
        have ST3 := p3
        have ST4 := p4
        have ST5 := p5
        have ST6 := p6
        have ST7 := p7
        have ST8 := p8
        have ST9 := p9
        have ST10 := p10
        have ST11 := p11
        refine wpOp_run rfl rfl fun K hK => ?_
        clear hd hs hi hl
        go_simp
        refine hK _ _ ⟨_, _, _, _, _, _, _, _, _, _, _, _, rfl, hg, by rw [hN]; exact hr, fun h => ST0 (OL 0 (by decide) h), fun h => ST1 (OL 1 (by decide) h), fun h => ST2 (OL 2 (by decide) h), fun h => ST3 (OL 3 (by decide) h), fun h => ST4 (OL 4 (by decide) h), fun h => ST5 (OL 5 (by decide) h), fun _ => rfl, fun h => ST7 (OL 7 (by decide) h), fun h => ST8 (OL 8 (by decide) h), fun h => ST9 (OL 9 (by decide) h), fun h => ST10 (OL 10 (by decide) h), fun h => ST11 (OL 11 (by decide) h)⟩
      · have hLf : L.getD 7 false = false := getD_false hl (by rw [hs]; decide)
        have hsz : 7 < L.size := by rw [hs]; decide
        have OL : ∀ j, j ≠ 7 → (L.setIfInBounds 7 true).getD j false = true → L.getD j false = true := fun j hj h => by rw [getD_setB _ _ _ _ hsz, if_neg hj] at h; exact h
        have hN : 10 + ((L.setIfInBounds 7 true).getD 2 false).toNat + ((L.setIfInBounds 7 true).getD 7 false).toNat = 10 + (L.getD 2 false).toNat + (L.getD 7 false).toNat + 1 := by
          rw [getD_setB _ _ _ _ hsz, getD_setB _ _ _ _ hsz, if_neg (by decide), if_pos rfl, hLf]; simp; try omega
        have d6 := hd _ rfl ⟨6, .data⟩ (by simp) rfl
        obtain rfl := p6 d6
        refine wpOp_run rfl rfl fun K hK => ?_
        clear hd hs hi hl
        go_simp
        refine (pick_c _ _ 3 _ hr (by have := two_bools (L.getD 2 false) (L.getD 7 false); omega) (by omega) (by omega)).mono ?_
        rintro e W2 ⟨k, k0, k1, rfl, hgk, hrk⟩
        have ST0 := fun h => (p0 h).kept hgk
        have ST1 := p1
        have ST2 := p2
        have ST3 := fun h => (p3 h).kept hgk
        have ST4 := p4
        have ST5 := fun h => (p5 h).kept hgk
        have ST6 := p6
        have ST7 := p7
        have ST8 := fun h => (p8 h).kept hgk
        have ST9 := p9
        have ST10 := p10
        have ST11 := p11
        refine hK _ _ ⟨_, _, _, _, _, _, _, _, _, _, _, _, rfl, grown_trans hg hgk, by rw [hN]; exact hrk, fun h => ST0 (OL 0 (by decide) h), fun h => ST1 (OL 1 (by decide) h), fun h => ST2 (OL 2 (by decide) h), fun h => ST3 (OL 3 (by decide) h), fun h => ST4 (OL 4 (by decide) h), fun h => ST5 (OL 5 (by decide) h), fun h => ST6 (OL 6 (by decide) h), fun _ => ⟨k, rfl, k0, by omega⟩, fun h => ST8 (OL 8 (by decide) h), fun h => ST9 (OL 9 (by decide) h), fun h => ST10 (OL 10 (by decide) h), fun h => ST11 (OL 11 (by decide) h)⟩
      · have hLf : L.getD 8 false = false := getD_false hl (by rw [hs]; decide)
        have hsz : 8 < L.size := by rw [hs]; decide
        have OL : ∀ j, j ≠ 8 → (L.setIfInBounds 8 true).getD j false = true → L.getD j false = true := fun j hj h => by rw [getD_setB _ _ _ _ hsz, if_neg hj] at h; exact h
        have hN : 10 + ((L.setIfInBounds 8 true).getD 2 false).toNat + ((L.setIfInBounds 8 true).getD 7 false).toNat = 10 + (L.getD 2 false).toNat + (L.getD 7 false).toNat := by
          rw [getD_setB _ _ _ _ hsz, getD_setB _ _ _ _ hsz, if_neg (by decide), if_neg (by decide)]
        have d5 := hd _ rfl ⟨5, .data⟩ (by simp) rfl
        have d7 := hd _ rfl ⟨7, .data⟩ (by simp) rfl
        obtain ⟨b, rfl, hb, hcs⟩ := p5 d5
        obtain ⟨k, rfl, k0, k1⟩ := p7 d7
        obtain ⟨v, v0, v1, hcell⟩ := hcs k.toNat (by omega)
        have k2 : k < 3 := by omega
        have ST0 := p0
        have ST1 := p1
        have ST2 := p2
        have ST3 := p3
        have ST4 := p4
        have ST5 := p5
        have ST6 := p6
        have ST7 := p7
        have ST8 := p8
        have ST9 := p9
        have ST10 := p10
        have ST11 := p11
        refine wpOp_run rfl rfl fun K hK => ?_
        clear hd hs hi hl
        go_simp
        refine hK _ _ ⟨_, _, _, _, _, _, _, _, _, _, _, _, rfl, hg, by rw [hN]; exact hr, fun h => ST0 (OL 0 (by decide) h), fun h => ST1 (OL 1 (by decide) h), fun h => ST2 (OL 2 (by decide) h), fun h => ST3 (OL 3 (by decide) h), fun h => ST4 (OL 4 (by decide) h), fun h => ST5 (OL 5 (by decide) h), fun h => ST6 (OL 6 (by decide) h), fun h => ST7 (OL 7 (by decide) h), fun _ => ⟨b, k.toNat, v, rfl, hb, v0, v1, hcell⟩, fun h => ST9 (OL 9 (by decide) h), fun h => ST10 (OL 10 (by decide) h), fun h => ST11 (OL 11 (by decide) h)⟩
      · have hLf : L.getD 9 false = false := getD_false hl (by rw [hs]; decide)
        have hsz : 9 < L.size := by rw [hs]; decide
        have OL : ∀ j, j ≠ 9 → (L.setIfInBounds 9 true).getD j false = true → L.getD j false = true := fun j hj h => by rw [getD_setB _ _ _ _ hsz, if_neg hj] at h; exact h
        have hN : 10 + ((L.setIfInBounds 9 true).getD 2 false).toNat + ((L.setIfInBounds 9 true).getD 7 false).toNat = 10 + (L.getD 2 false).toNat + (L.getD 7 false).toNat := by
          rw [getD_setB _ _ _ _ hsz, getD_setB _ _ _ _ hsz, if_neg (by decide), if_neg (by decide)]
        have d8 := hd _ rfl ⟨8, .data⟩ (by simp) rfl
        obtain ⟨b, i, v, rfl, hb, v0, v1, hcell⟩ := p8 d8
        have ST0 := p0
        have ST1 := p1
        have ST2 := p2
        have ST3 := p3
        have ST4 := p4
        have ST5 := p5
        have ST6 := p6
        have ST7 := p7
        have ST8 := p8
        have ST9 := p9
        have ST10 := p10
        have ST11 := p11
        refine wpOp_run rfl rfl fun K hK => ?_
        clear hd hs hi hl
        go_simp
        refine hK _ _ ⟨_, _, _, _, _, _, _, _, _, _, _, _, rfl, hg, by rw [hN]; exact hr, fun h => ST0 (OL 0 (by decide) h), fun h => ST1 (OL 1 (by decide) h), fun h => ST2 (OL 2 (by decide) h), fun h => ST3 (OL 3 (by decide) h), fun h => ST4 (OL 4 (by decide) h), fun h => ST5 (OL 5 (by decide) h), fun h => ST6 (OL 6 (by decide) h), fun h => ST7 (OL 7 (by decide) h), fun h => ST8 (OL 8 (by decide) h), fun _ => ⟨v, rfl, v0, v1⟩, fun h => ST10 (OL 10 (by decide) h), fun h => ST11 (OL 11 (by decide) h)⟩
      · have hLf : L.getD 10 false = false := getD_false hl (by rw [hs]; decide)
        have hsz : 10 < L.size := by rw [hs]; decide
        have OL : ∀ j, j ≠ 10 → (L.setIfInBounds 10 true).getD j false = true → L.getD j false = true := fun j hj h => by rw [getD_setB _ _ _ _ hsz, if_neg hj] at h; exact h
        have hN : 10 + ((L.setIfInBounds 10 true).getD 2 false).toNat + ((L.setIfInBounds 10 true).getD 7 false).toNat = 10 + (L.getD 2 false).toNat + (L.getD 7 false).toNat := by
          rw [getD_setB _ _ _ _ hsz, getD_setB _ _ _ _ hsz, if_neg (by decide), if_neg (by decide)]
        have d4 := hd _ rfl ⟨4, .data⟩ (by simp) rfl
        obtain ⟨v, rfl, v0, v1⟩ := p4 d4
        have ST0 := p0
        have ST1 := p1
        have ST2 := p2
        have ST3 := p3
        have ST4 := p4
        have ST5 := p5
        have ST6 := p6
        have ST7 := p7
        have ST8 := p8
        have ST9 := p9
        have ST10 := p10
        have ST11 := p11
        refine wpOp_run rfl rfl fun K hK => ?_
        clear hd hs hi hl
        go_simp
        refine hK _ _ ⟨_, _, _, _, _, _, _, _, _, _, _, _, rfl, hg, by rw [hN]; exact hr, fun h => ST0 (OL 0 (by decide) h), fun h => ST1 (OL 1 (by decide) h), fun h => ST2 (OL 2 (by decide) h), fun h => ST3 (OL 3 (by decide) h), fun h => ST4 (OL 4 (by decide) h), fun h => ST5 (OL 5 (by decide) h), fun h => ST6 (OL 6 (by decide) h), fun h => ST7 (OL 7 (by decide) h), fun h => ST8 (OL 8 (by decide) h), fun h => ST9 (OL 9 (by decide) h), fun _ => ⟨v, rfl, v0, v1⟩, fun h => ST11 (OL 11 (by decide) h)⟩
      · have hLf : L.getD 11 false = false := getD_false hl (by rw [hs]; decide)
        have hsz : 11 < L.size := by rw [hs]; decide
        have OL : ∀ j, j ≠ 11 → (L.setIfInBounds 11 true).getD j false = true → L.getD j false = true := fun j hj h => by rw [getD_setB _ _ _ _ hsz, if_neg hj] at h; exact h
        have hN : 10 + ((L.setIfInBounds 11 true).getD 2 false).toNat + ((L.setIfInBounds 11 true).getD 7 false).toNat = 10 + (L.getD 2 false).toNat + (L.getD 7 false).toNat := by
          rw [getD_setB _ _ _ _ hsz, getD_setB _ _ _ _ hsz, if_neg (by decide), if_neg (by decide)]
        have d9 := hd _ rfl ⟨9, .data⟩ (by simp) rfl
        obtain ⟨v, rfl, v0, v1⟩ := p9 d9
        have ST0 := p0
        have ST1 := p1
        have ST2 := p2
        have ST3 := p3
        have ST4 := p4
        have ST5 := p5
        have ST6 := p6
        have ST7 := p7
        have ST8 := p8
        have ST9 := p9
        have ST10 := p10
        have ST11 := p11
        refine wpOp_run rfl rfl fun K hK => ?_
        clear hd hs hi hl
        go_simp
        refine hK _ _ ⟨_, _, _, _, _, _, _, _, _, _, _, _, rfl, hg, by rw [hN]; exact hr, fun h => ST0 (OL 0 (by decide) h), fun h => ST1 (OL 1 (by decide) h), fun h => ST2 (OL 2 (by decide) h), fun h => ST3 (OL 3 (by decide) h), fun h => ST4 (OL 4 (by decide) h), fun h => ST5 (OL 5 (by decide) h), fun h => ST6 (OL 6 (by decide) h), fun h => ST7 (OL 7 (by decide) h), fun h => ST8 (OL 8 (by decide) h), fun h => ST9 (OL 9 (by decide) h), fun h => ST10 (OL 10 (by decide) h), fun _ => ⟨v, rfl, v0, v1⟩⟩
    · rintro L act W ⟨u2, u3, u11, u12, u13, u14, u15, u16, u17, u18, u19, u20, rfl, hg, hr, p0, p1, p2, p3, p4, p5, p6, p7, p8, p9, p10, p11⟩ hall
      obtain ⟨x, rfl, x0, x1⟩ := p10 (hall 10 (by decide))
      obtain ⟨y, rfl, y0, y1⟩ := p11 (hall 11 (by decide))
      have HW := Lib.hid (drawn_below hg1 (grown_trans hg2 (grown_undrew hg)))
      clear p0 p1 p2 p3 p4 p5 p6 p7 p8 p9 p10 p11 hall hg hr hg1 hg2 hr1 hr2
      go_wp2_with fail
      go_ret2
      exact ⟨x, y, x0, x1, y0, y1, rfl, HW.out⟩
  · have hm' : (m == 0) = false := by simpa using hz
    go_wp2_with fail
    refine (pick_c w.heap.size 1 16 _ hr2 (by omega) (by omega) (by omega)).mono ?_
    rintro e w3 ⟨k, hk0, hk1, rfl, hg3, hr3⟩
    go_wp2_with fail
    refine (pick_c w.heap.size 2 4 _ hr3 (by omega) (by omega) (by omega)).mono ?_
    rintro e w4 ⟨j, hj0, hj1, rfl, hg4, hr4⟩
    go_wp2_with fail
    go_ret2
    exact ⟨k, j, by omega, by omega, by omega, by omega, rfl, drawn_below hg1 (grown_trans hg2 (grown_trans hg3 hg4))⟩
end Go.Proofs.Ytpgjnmflegdgmaa
