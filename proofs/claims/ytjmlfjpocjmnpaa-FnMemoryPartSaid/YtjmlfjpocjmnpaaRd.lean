/-
  The reader of drawn bytes: l6Open and pick. No conditions.
-/
import Derived.Test.YtjmlfjpocjmnpaaPure
import Derived.Test.YtjmlfjpocjmnpaaLib
import Derived.OpenShut
namespace Go.Proofs.Ytjmlfjpocjmnpaa
open Go.RowKit

/-- The bytes of a slice read as numbers of a byte; the slice lies below block br. -/
def Bytes (w : World) (br : Nat) (a : Option Addr) (len : Nat) : Prop :=
  len = 0 ∨ ∃ b off, a = some ⟨b, off, none⟩ ∧ b < br ∧ ∀ i, i < len → ∃ v : Int, w.cell? ⟨b, off + i, none⟩ = some (.int .u8 v) ∧ 0 ≤ v ∧ v ≤ 255

/-- What the reader draws at place p below n, as a function of its bytes. -/
def pickV (len : Nat) (β : Nat → Int) (p : Nat) (n : Int) : Int :=
  if len = 0 then 0 else if p < len then β p % n else
    (bits .xor .i64 (β (p % len) * 131 + β ((p * 7 + 3) % len) * 1117 + p * 29 + (p / len : Int) * 53) ((β (p % len) * 131 + β ((p * 7 + 3) % len) * 1117 + p * 29 + (p / len : Int) * 53) / 64)).tmod n

/-- A reader lies in block br; p numbers have been drawn; g tells what comes next. -/
structure RdrS (w : World) (br p : Nat) (g : Nat → Int → Int) : Prop where
  ex : ∃ (a : Option Addr) (len cap : Nat) (β : Nat → Int), w.heap[br]? = some (.cells #[.slice a len cap, .int .i64 p] 56 (0, 0)) ∧ len ≤ 2000 ∧ g = pickV len β ∧ (∀ i, 0 ≤ β i ∧ β i ≤ 255) ∧
    (len = 0 ∨ ∃ b off, a = some ⟨b, off, none⟩ ∧ b < br ∧ ∀ i, i < len → w.cell? ⟨b, off + i, none⟩ = some (.int .u8 (β i)))

/-- At most q numbers have been drawn. -/
structure Rdr (w : World) (br q : Nat) : Prop where
  ex : ∃ (p : Nat) (g : Nat → Int → Int), p ≤ q ∧ RdrS w br p g

theorem RdrS.of_blocks {w w' : World} {br p : Nat} {g : Nat → Int → Int} (h : RdrS w br p g) (hk : ∀ j, j ≤ br → w'.heap[j]? = w.heap[j]?) : RdrS w' br p g := by
  obtain ⟨a, len, cap, β, hb, hl, hg, hβ, hB⟩ := h
  refine ⟨a, len, cap, β, (hk br (Nat.le_refl _)).trans hb, hl, hg, hβ, ?_⟩
  rcases hB with h0 | ⟨b, off, ha, hlt2, hv⟩
  · exact .inl h0
  · exact .inr ⟨b, off, ha, hlt2, fun i hi => (World.cell?_of_block (w := w) (hk b (by omega))).trans (hv i hi)⟩
theorem RdrS.lt {w : World} {br p : Nat} {g : Nat → Int → Int} (h : RdrS w br p g) : br < w.heap.size := by
  obtain ⟨a, len, cap, β, hb, _⟩ := h
  exact (Array.getElem?_eq_some_iff.1 hb).1
theorem RdrS.alloc {w : World} {br p : Nat} {g : Nat → Int → Int} (h : RdrS w br p g) (o : Obj) : RdrS (w.alloc o) br p g :=
  h.of_blocks fun j hj => Below.heap_alloc w o j (by have := h.lt; omega)
theorem RdrS.drew {w : World} {br p : Nat} {g : Nat → Int → Int} (h : RdrS w br p g) : RdrS w.drew br p g := h.of_blocks fun _ _ => rfl
theorem RdrS.rdr {w : World} {br p : Nat} {g : Nat → Int → Int} (h : RdrS w br p g) : Rdr w br p := ⟨p, g, Nat.le_refl _, h⟩
/-- What is drawn lies in the range that was asked. -/
theorem RdrS.bd {w : World} {br p : Nat} {g : Nat → Int → Int} (h : RdrS w br p g) (k : Nat) (n : Int) (hk : k ≤ 1000000) (hn : 1 ≤ n) : 0 ≤ g k n ∧ g k n < n := by
  obtain ⟨a, len, cap, β, hb, hl, rfl, hβ, hB⟩ := h
  unfold pickV
  split
  · omega
  · split
    · exact ⟨Int.emod_nonneg _ (by omega), Int.emod_lt_of_pos _ (by omega)⟩
    · exact mix_bd _ _ _ _ _ (hβ _).1 (hβ _).2 (hβ _).1 (hβ _).2 (by omega) (by omega) (Int.ediv_nonneg (by omega) (by omega)) (Int.ediv_le_self _ (by omega)) hn

theorem rdr_step {w : World} {br p : Nat} {g : Nat → Int → Int} (h : RdrS w br p g) (k : Nat) :
    w.grownBy ((w.setCell ⟨br, 1, none⟩ (.int .i64 ((p : Int) + 1))).drewN k) (some br) ∧ RdrS ((w.setCell ⟨br, 1, none⟩ (.int .i64 ((p : Int) + 1))).drewN k) br (p + 1) g := by
  have oth : ∀ j, j ≠ br → ((w.setCell ⟨br, 1, none⟩ (.int .i64 ((p : Int) + 1))).drewN k).heap[j]? = w.heap[j]? := fun j hj => Below.heap_setCell w ⟨br, 1, none⟩ _ j hj
  obtain ⟨a, len, cap, β, hb, hl, hg, hβ, hB⟩ := h
  refine ⟨⟨rfl, rfl, rfl, by simp [World.drewN, World.setCell], fun j _ hne => oth j (fun e => hne (by rw [e]))⟩, ⟨a, len, cap, β, ?_, hl, hg, hβ, ?_⟩⟩
  · simp [World.drewN, World.setCell, Array.getElem?_modify, hb]
  · rcases hB with h0 | ⟨b, off, ha, hlt2, hv⟩
    · exact .inl h0
    · exact .inr ⟨b, off, ha, hlt2, fun i hi => (World.cell?_of_block (w := w) (oth b (by omega))).trans (hv i hi)⟩

set_option maxHeartbeats 400000 in
theorem pick_d (br p : Nat) (g : Nat → Int → Int) (n : Int) (w : World) (h : RdrS w br p g) (hq : p ≤ 1000000) (h1 : 1 ≤ n) (h2 : n ≤ 1000) :
    Calls Try.prog 41 #[.pointer (some ⟨br, 0, none⟩), .int .i64 n] w fun e w' => e = .returned (.int .i64 (g p n)) ∧ w.grownBy w' (some br) ∧ RdrS w' br (p + 1) g := by
  have HS := fun k => Lib.hid (rdr_step h k)
  obtain ⟨a, len, cap, β, hb, hl, hg, hβ, hB⟩ := h
  have HG := Lib.hid hg
  clear hg
  have c0 : w.cell? ⟨br, 0, none⟩ = some (.slice a len cap) := by simp [World.cell?, hb]
  have c1 : w.cell? ⟨br, 1, none⟩ = some (.int .i64 p) := by simp [World.cell?, hb]
  have cf : w.frozen? ⟨br, 1, none⟩ = false := by simp [World.frozen?, hb]
  have hp' : (p : Int) ≤ 1000000 := by omega
  clear hb
  by_cases hz : len = 0
  · subst hz
    have h1' : decide (n < 1) = false := by simp; omega
    clear hB hβ
    go_enter Try.func41, Try.ntmps41
    go_wp2
    go_ret
    exact ⟨by rw [HG.out]; simp [pickV], (HS 0).out⟩
  · have h1' : decide (n < 1) = false := by simp; omega
    have hlz : ((len : Int) == 0) = false := by simp; omega
    have hlp : (1 : Int) ≤ len := by omega
    rcases hB with h0 | ⟨b, off, rfl, hbr, hv⟩
    · exact absurd h0 hz
    have hne : ¬ b = br := by omega
    by_cases hpl : p < len
    · have hvc := hv p hpl
      have hv0 := (hβ p).1
      have hv1 := (hβ p).2
      have HF : Hid (pickV len β p n = β p % n) := Lib.hid (by simp [pickV, hz, hpl])
      clear hv hβ
      generalize β p = v at *
      have hpl' : (p : Int) < (len : Int) := by omega
      go_enter Try.func41, Try.ntmps41
      go_wp2
      go_ret
      exact ⟨by rw [HG.out, HF.out]; rfl, (HS 0).out⟩
    · have hpl' : ¬ (p : Int) < (len : Int) := by omega
      have i1 : 0 ≤ (p : Int) % (len : Int) := Int.emod_nonneg _ (by omega)
      have i2 : (p : Int) % (len : Int) < (len : Int) := Int.emod_lt_of_pos _ (by omega)
      have j1 : 0 ≤ ((p : Int) * 7 + 3) % (len : Int) := Int.emod_nonneg _ (by omega)
      have j2 : ((p : Int) * 7 + 3) % (len : Int) < (len : Int) := Int.emod_lt_of_pos _ (by omega)
      have d1 : 0 ≤ (p : Int) / (len : Int) := Int.ediv_nonneg (by omega) (by omega)
      have d2 : (p : Int) / (len : Int) ≤ p := Int.ediv_le_self _ (by omega)
      have hvc := hv (p % len) (Nat.mod_lt _ (by omega))
      have hv0 := (hβ (p % len)).1
      have hv1 := (hβ (p % len)).2
      have huc := hv ((p * 7 + 3) % len) (Nat.mod_lt _ (by omega))
      have hu0 := (hβ ((p * 7 + 3) % len)).1
      have hu1 := (hβ ((p * 7 + 3) % len)).2
      have HF : Hid (pickV len β p n = (bits .xor .i64 (β (p % len) * 131 + β ((p * 7 + 3) % len) * 1117 + p * 29 + (p / len : Int) * 53) ((β (p % len) * 131 + β ((p * 7 + 3) % len) * 1117 + p * 29 + (p / len : Int) * 53) / 64)).tmod n) := Lib.hid (by simp [pickV, hz, hpl])
      clear hv hβ
      generalize β (p % len) = v at *
      generalize β ((p * 7 + 3) % len) = u at *
      go_enter Try.func41, Try.ntmps41
      go_wp2_with fail
      go_quiet (fail)
      go_wp2
      go_ret
      exact ⟨by rw [HG.out, HF.out]; rfl, (HS nq).out⟩
theorem pick_c (br q : Nat) (n : Int) (w : World) (h : Rdr w br q) (hq : q ≤ 1000000) (h1 : 1 ≤ n) (h2 : n ≤ 1000) :
    Calls Try.prog 41 #[.pointer (some ⟨br, 0, none⟩), .int .i64 n] w fun e w' => ∃ m : Int, 0 ≤ m ∧ m < n ∧ e = .returned (.int .i64 m) ∧ w.grownBy w' (some br) ∧ Rdr w' br (q + 1) := by
  obtain ⟨p, g, hp, hS⟩ := h
  obtain ⟨b0, b1⟩ := hS.bd p n (by omega) h1
  exact (pick_d br p g n w hS (by omega) h1 h2).mono fun e w' ⟨he, hg, hr⟩ => ⟨g p n, b0, b1, he, hg, ⟨p + 1, g, by omega, hr⟩⟩
/-- What the form tells of a slice of bytes that came in. -/
theorem bytes_of {w : World} {a : Option Addr} {len cap : Nat} {zs : List Int} (h : (a = none ∧ len = 0 ∧ cap = 0 ∧ zs = []) ∨ ∃ x, a = some x ∧ len ≤ cap ∧ cap ≤ maxLen ∧ zs.length = cap ∧ (∀ i, i < zs.length → w.cell? (x.add i) = some (.int .u8 (zs.getD i 0))) ∧ ∀ n ∈ zs, (Lit.int .u8 n).wf = true) :
    Bytes w w.heap.size a len ∧ len ≤ cap ∧ len ≤ maxLen := by
  rcases h with ⟨rfl, rfl, rfl, rfl⟩ | ⟨x, rfl, hl, hm, hz, hcell, hwz⟩
  · exact ⟨.inl rfl, Nat.le_refl _, Nat.zero_le _⟩
  · refine ⟨?_, hl, Nat.le_trans hl hm⟩
    by_cases h0 : len = 0
    · exact .inl h0
    · obtain ⟨b, off, spot⟩ := x
      have hc := hcell 0 (by omega)
      have hspot : spot = none := by simpa [Addr.add] using World.cell?_spot hc
      subst hspot
      have hlt := World.block_lt_of_cell? w _ hc
      refine .inr ⟨b, off, rfl, by simpa [Addr.add] using hlt, fun i hi => ?_⟩
      have hci := hcell i (by omega)
      refine ⟨zs.getD i 0, by rw [Addr.add_lit] at hci; exact hci, ?_⟩
      have hw := hwz (zs.getD i 0) (by rw [List.getD_eq_getElem?_getD, List.getElem?_eq_getElem (by omega)]; exact List.getElem_mem (by omega))
      exact bounds_u8 hw

theorem Rdr.alloc {w : World} {br q : Nat} (h : Rdr w br q) (o : Obj) : Rdr (w.alloc o) br q := by
  obtain ⟨p, g, hp, hS⟩ := h
  exact ⟨p, g, hp, hS.alloc o⟩
theorem Rdr.drew {w : World} {br q : Nat} (h : Rdr w br q) : Rdr w.drew br q := by
  obtain ⟨p, g, hp, hS⟩ := h
  exact ⟨p, g, hp, hS.drew⟩
theorem Rdr.mono {w : World} {br q q' : Nat} (h : Rdr w br q) (hq : q ≤ q') : Rdr w br q' := by
  obtain ⟨p, g, hp, hS⟩ := h
  exact ⟨p, g, by omega, hS⟩
theorem Rdr.lt {w : World} {br q : Nat} (h : Rdr w br q) : br < w.heap.size := by
  obtain ⟨p, g, hp, hS⟩ := h
  exact hS.lt
theorem Rdr.of_blocks {w w' : World} {br q : Nat} (h : Rdr w br q) (hk : ∀ j, j ≤ br → w'.heap[j]? = w.heap[j]?) : Rdr w' br q := by
  obtain ⟨p, g, hp, hS⟩ := h
  exact ⟨p, g, hp, hS.of_blocks hk⟩

set_option maxHeartbeats 400000 in
theorem l6Open_d (a : Option Addr) (len cap : Nat) (w : World) (hB : Bytes w w.heap.size a len) (hc : len ≤ cap) (hm : len ≤ maxLen) :
    Calls Try.prog 27 #[.slice a len cap] w fun e w' => e = .returned (.pointer (some ⟨w.heap.size, 0, none⟩)) ∧ w.grownBy w' none ∧ ∃ g, RdrS w' w.heap.size 0 g := by
  unfold maxLen at hm
  obtain ⟨β, hβ, hB'⟩ : ∃ β : Nat → Int, (∀ i, 0 ≤ β i ∧ β i ≤ 255) ∧ (len = 0 ∨ ∃ b off, a = some ⟨b, off, none⟩ ∧ b < w.heap.size ∧ ∀ i, i < len → w.cell? ⟨b, off + i, none⟩ = some (.int .u8 (β i))) := by
    rcases hB with h0 | ⟨b, off, ha, hlt2, hv⟩
    · exact ⟨fun _ => 0, fun _ => by simp, .inl h0⟩
    · refine ⟨fun i => if h : i < len then (hv i h).choose else 0, fun i => ?_, .inr ⟨b, off, ha, hlt2, fun i hi => ?_⟩⟩
      · by_cases hi : i < len
        · simp only [hi, dif_pos]
          exact (hv i hi).choose_spec.2
        · simp [hi]
      · simp only [hi, dif_pos]
        exact (hv i hi).choose_spec.1
  have fin : ∀ (l c : Nat), l ≤ len → l ≤ 2000 → w.grownBy (w.alloc (.cells #[.slice a l c, .int .i64 0] 56)) none ∧ RdrS (w.alloc (.cells #[.slice a l c, .int .i64 0] 56)) w.heap.size 0 (pickV l β) := by
    intro l c hl h2
    refine ⟨World.grownBy_alloc _ _ _, ⟨a, l, c, β, heap_alloc_new w _, h2, rfl, hβ, ?_⟩⟩
    rcases hB' with h0 | ⟨b, off, ha, hlt2, hv⟩
    · exact .inl (by omega)
    · exact .inr ⟨b, off, ha, hlt2, fun i hi => (World.cell?_of_block (w := w) (Below.heap_alloc w _ b (by omega))).trans (hv i (by omega))⟩
  have F := fun l c h1 h2 => Lib.hid (fin l c h1 h2)
  clear fin hB hB'
  by_cases hl : len ≤ 2000
  · go_enter Try.func27, Try.ntmps27
    go_wp2
    go_ret
    exact ⟨rfl, (F _ _ (Nat.le_refl _) hl).out.1, _, (F _ _ (Nat.le_refl _) hl).out.2⟩
  · have hl1 : (2000 : Int) < (len : Int) := by omega
    have hl2 : (2000 : Int) ≤ (cap : Int) := by omega
    go_enter Try.func27, Try.ntmps27
    go_wp2
    go_ret
    exact ⟨rfl, (F _ _ (by omega) (by omega)).out.1, _, (F _ _ (by omega) (by omega)).out.2⟩
theorem l6Open_c (a : Option Addr) (len cap : Nat) (w : World) (hB : Bytes w w.heap.size a len) (hc : len ≤ cap) (hm : len ≤ maxLen) :
    Calls Try.prog 27 #[.slice a len cap] w fun e w' => e = .returned (.pointer (some ⟨w.heap.size, 0, none⟩)) ∧ w.grownBy w' none ∧ Rdr w' w.heap.size 0 :=
  (l6Open_d a len cap w hB hc hm).mono fun _ _ ⟨he, hg, _, hr⟩ => ⟨he, hg, hr.rdr⟩
set_option maxHeartbeats 400000 in
theorem l91Frame_c (br q : Nat) (w : World) (h : Rdr w br q) (hq : q ≤ 900000) :
    Calls Try.prog 32 #[.pointer (some ⟨br, 0, none⟩)] w fun e w' => ∃ m : Int, -1 ≤ m ∧ m ≤ 100 ∧ e = .returned (.int .i64 m) ∧ w.grownBy w' (some br) ∧ Rdr w' br (q + 2) := by
  go_enter Try.func32, Try.ntmps32
  go_wp2_with fail
  refine (pick_c br q 16 _ h (by omega) (by omega) (by omega)).mono ?_
  rintro e w1 ⟨m, hm0, hm1, rfl, hg1, hr1⟩
  by_cases hm : m = 0
  · subst hm
    go_wp2_with fail
    refine (pick_c br (q + 1) 3 _ (hr1.alloc _) (by omega) (by omega) (by omega)).mono ?_
    rintro e w2 ⟨k, hk0, hk1, rfl, hg2, hr2⟩
    have hne : w1.heap.size ≠ br := by have := hr1.lt; omega
    have c0 := cell_kept hg2 hne (i := 0) (v := .int .i64 (-1)) rfl
    have c1 := cell_kept hg2 hne (i := 1) (v := .int .i64 12) rfl
    have c2 := cell_kept hg2 hne (i := 2) (v := .int .i64 100) rfl
    have hk : k = 0 ∨ k = 1 ∨ k = 2 := by omega
    rcases hk with rfl | rfl | rfl
    all_goals
      go_wp2
      go_ret
      exact ⟨_, by omega, by omega, rfl, grown_trans (grown_alloc hg1 _) hg2, hr2⟩
  · have hm' : (m == 0) = false := by simpa using hm
    go_wp2_with fail
    refine (pick_c br (q + 1) 12 _ hr1 (by omega) (by omega) (by omega)).mono ?_
    rintro e w2 ⟨k, hk0, hk1, rfl, hg2, hr2⟩
    go_wp2
    go_ret
    exact ⟨k, by omega, by omega, rfl, grown_trans hg1 hg2, hr2⟩
set_option maxHeartbeats 400000 in
theorem l91Entry_c (br q : Nat) (w : World) (h : Rdr w br q) (hq : q ≤ 900000) :
    Calls Try.prog 44 #[.pointer (some ⟨br, 0, none⟩)] w fun e w' => ∃ m : Int, -1 ≤ m ∧ m ≤ 9999 ∧ e = .returned (.int .i64 m) ∧ w.grownBy w' (some br) ∧ Rdr w' br (q + 3) := by
  go_enter Try.func44, Try.ntmps44
  go_wp2_with fail
  refine (pick_c br q 8 _ h (by omega) (by omega) (by omega)).mono ?_
  rintro e w1 ⟨m, hm0, hm1, rfl, hg1, hr1⟩
  by_cases hm : m = 0
  · subst hm
    go_wp2_with fail
    go_ret
    exact ⟨_, by omega, by omega, rfl, hg1, hr1.mono (by omega)⟩
  by_cases hm2 : m = 1
  · subst hm2
    go_wp2_with fail
    go_ret
    exact ⟨_, by omega, by omega, rfl, hg1, hr1.mono (by omega)⟩
  by_cases hm3 : m = 2
  · subst hm3
    go_wp2_with fail
    refine (pick_c br (q + 1) 7 _ (hr1.alloc _) (by omega) (by omega) (by omega)).mono ?_
    rintro e w2 ⟨k, hk0, hk1, rfl, hg2, hr2⟩
    have hne : w1.heap.size ≠ br := by have := hr1.lt; omega
    obtain ⟨v, hv, hcell⟩ := cell_of [-1, 2, 47, 48, 49, 9999, 4] hg2 hne rfl k hk0 hk1
    have hb : -1 ≤ v ∧ v ≤ 9999 := by simp at hv; omega
    have HB := Lib.hid hb
    clear hv hb
    go_wp2
    go_ret
    exact ⟨v, HB.out.1, HB.out.2, rfl, grown_trans (grown_alloc hg1 _) hg2, hr2.mono (by omega)⟩
  · have hm' : (m == 0) = false := by simpa using hm
    have hm2' : (m == 1) = false := by simpa using hm2
    have hm3' : (m == 2) = false := by simpa using hm3
    go_wp2_with fail
    refine (pick_c br (q + 1) 12 _ hr1 (by omega) (by omega) (by omega)).mono ?_
    rintro e w2 ⟨k, hk0, hk1, rfl, hg2, hr2⟩
    go_wp2_with fail
    refine (pick_c br (q + 1 + 1) 2 _ hr2 (by omega) (by omega) (by omega)).mono ?_
    rintro e w3 ⟨j, hj0, hj1, rfl, hg3, hr3⟩
    go_wp2
    go_ret
    exact ⟨_, by omega, by omega, rfl, grown_trans (grown_trans hg1 hg2) hg3, hr3.mono (by omega)⟩
/-- Behind a drawing function that opened a reader of its own: nothing that was there has turned. -/
theorem drawn_below {w w1 w2 : World} (h1 : w.grownBy w1 none) (h2 : w1.grownBy w2 (some w.heap.size)) : Below w.heap.size w w2 :=
  ⟨h2.os.trans h1.os, h2.tape.trans h1.tape, h2.output.trans h1.output, Nat.le_trans h1.size h2.size, fun k hk => (h2.block k (by have := h1.size; omega) (fun e => by have := Option.some.inj e; omega)).trans (h1.block k hk (fun e => by cases e))⟩
end Go.Proofs.Ytjmlfjpocjmnpaa
