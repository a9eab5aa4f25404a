/-
  The walk of the law FnMemoryPart: it returns true and writes nothing that was there. No conditions.
-/
import Derived.Test.YtjmlfjpocjmnpaaDrawMs
import Derived.Test.YtjmlfjpocjmnpaaInv
import Derived.IntWalk
namespace Go.Proofs.Ytjmlfjpocjmnpaa
open Go.RowKit
attribute [local irreducible] Go.wpQuiet

/-- A row of the call's own whose cells are values. -/
def OwnV (w : World) (base : Nat) (v : Value) (vs : List Value) : Prop := w.ownsRow base 26 1 v vs.length vs
theorem OwnV.lt {w : World} {base : Nat} {v : Value} {vs : List Value} (h : OwnV w base v vs) : ∀ k, v.ownBlock = some k → base ≤ k ∧ k < w.heap.size := World.ownsRow.lt h
theorem OwnV.kept {w w' : World} {base : Nat} {v : Value} {vs : List Value} {row : Option Nat} (h : OwnV w base v vs) (hg : w.grownBy w' row) (hne : v.ownBlock = none ∨ v.ownBlock ≠ row) : OwnV w' base v vs := World.ownsRow.kept h hg hne
theorem OwnV.gnone {w w' : World} {base : Nat} {v : Value} {vs : List Value} (h : OwnV w base v vs) (hg : w.grownBy w' none) : OwnV w' base v vs := h.kept hg (by cases v.ownBlock <;> simp)
theorem OwnV.lit (w : World) (lo : Nat) (hl : lo ≤ w.heap.size) : OwnV (w.alloc (.cells #[] 26)) lo (.slice (some ⟨w.heap.size, 0, none⟩) 0 0) [] := World.ownsRow_lit w #[] 0 hl (by unfold maxLen; omega) rfl
theorem OwnV.slice {w : World} {base n : Nat} {v : Value} {vs : List Value} (h : OwnV w base v vs) (hn : vs.length = n) (h0 : 0 < n) : ∃ g cap, v = .slice (some ⟨g, 0, none⟩) n cap ∧ base ≤ g ∧ g < w.heap.size := by
  rcases h.2 with ⟨rfl, e⟩ | ⟨g, cap, cur, rfl, hb, hg, hnc, hm, hs, ht⟩
  · omega
  · exact ⟨g, cap, by rw [hn], hb, (Array.getElem?_eq_some_iff.1 hg).1⟩
/-- The cells of a slice below block B are these values. -/
def Cells1 (w : World) (B : Nat) (a : Option Addr) (vs : List Value) : Prop :=
  vs = [] ∨ ∃ b off, a = some ⟨b, off, none⟩ ∧ b < B ∧ ∀ i, i < vs.length → w.cell? ⟨b, off + i, none⟩ = some (vs.getD i nilV)
theorem Cells1.gnone {w w' : World} {B : Nat} {a : Option Addr} {vs : List Value} (h : Cells1 w B a vs) (hg : w.grownBy w' none) (_hB : B ≤ w.heap.size) : Cells1 w' B a vs := by
  rcases h with h | ⟨b, off, ha, hb, hc⟩
  · exact .inl h
  · exact .inr ⟨b, off, ha, hb, fun i hi => hg.cell (hc i hi) (by simp)⟩
theorem Cells1.mono {w : World} {B B' : Nat} {a : Option Addr} {vs : List Value} (h : Cells1 w B a vs) (hB : B ≤ B') : Cells1 w B' a vs := by
  rcases h with h | ⟨b, off, ha, hb, hc⟩
  · exact .inl h
  · exact .inr ⟨b, off, ha, by omega, hc⟩
theorem Cells1.take {w : World} {B : Nat} {a : Option Addr} {vs : List Value} (h : Cells1 w B a vs) (k : Nat) : Cells1 w B a (vs.take k) := by
  rcases h with h | ⟨b, off, ha, hb, hc⟩
  · subst h; exact .inl (by simp)
  · refine .inr ⟨b, off, ha, hb, fun i hi => ?_⟩
    rw [List.length_take] at hi
    rw [show (vs.take k).getD i nilV = vs.getD i nilV from by rw [List.getD_eq_getElem?_getD, List.getD_eq_getElem?_getD, List.getElem?_take, if_pos (by omega)]]
    exact hc i (by omega)
theorem Cells1.dropK {w : World} {B g off : Nat} {vs : List Value} (h : Cells1 w B (some ⟨g, off, none⟩) vs) (k : Nat) : Cells1 w B (some ⟨g, off + k, none⟩) (vs.drop k) := by
  rcases h with h | ⟨b, o, ha, hb, hc⟩
  · subst h; exact .inl (by simp)
  · simp only [Option.some.injEq, Addr.mk.injEq, and_true] at ha
    obtain ⟨rfl, rfl⟩ := ha
    refine .inr ⟨g, off + k, rfl, hb, fun i hi => ?_⟩
    rw [List.length_drop] at hi
    have := hc (k + i) (by omega)
    rw [show (vs.drop k).getD i nilV = vs.getD (k + i) nilV from by rw [List.getD_eq_getElem?_getD, List.getD_eq_getElem?_getD, List.getElem?_drop]]
    rw [show off + (k + i) = off + k + i from by omega] at this
    exact this
theorem Cells1.news {w : World} {B b off : Nat} {vs : List Value} (h : Cells1 w B (some ⟨b, off, none⟩) vs) : ∀ j u, vs[j]? = some u → w.cell? ((⟨b, off, none⟩ : Addr).add j) = some u := by
  intro j u hu
  have hj : j < vs.length := (List.getElem?_eq_some_iff.1 hu).1
  rcases h with h | ⟨b', o, ha, hb, hc⟩
  · subst h; simp at hj
  · simp only [Option.some.injEq, Addr.mk.injEq, and_true] at ha
    obtain ⟨rfl, rfl⟩ := ha
    rw [Addr.add_lit, hc j hj, List.getD_eq_getElem?_getD, hu]; rfl
/-- 'append' of values to a row of the call's own, as one step. -/
theorem wp_appV_at {o : Oper} {a : Act} {w : World} {K : Act → World → Prop} {Q : Exit → Act → World → Prop} (s x : Operand)
    (ho : o.op = .call { callee := .builtin .append, args := #[s, x], argTypes := #[23, 23] })
    (base : Nat) (v : Value) (cs : List Value) (hs : a.eval s = v) (hown : OwnV w base v cs) (B b off m c : Nat) (ds : List Value) (hx : a.eval x = .slice (some ⟨b, off, none⟩) m c) (hm : ds.length = m) (hd : Cells1 w B (some ⟨b, off, none⟩) ds) (h1 : ∀ v ∈ ds, v.oneCell' = true)
    (hl : cs.length + ds.length ≤ 4194304) (hbase : base ≤ w.heap.size)
    (h : ∀ v' w', OwnV w' base v' (cs ++ ds) → w.grownBy w' v.ownBlock → K (a.put o.dst v') w') : o.wp Try.prog a w K Q := by
  obtain ⟨i0, hi, hz0, hz1, hz2⟩ := info_parts infoRow
  obtain ⟨v', w', hr, h2, h3, _, h5⟩ := run_append_own_at (P := Try.prog) w base 23 o.type 26 i0 (.slice none 0 0) 1 24 Try.underlying23 hi hz0 hz1 hz2 rfl (by decide) v cs.length _ hown ⟨b, off, none⟩ m c ds (by rw [hm, Nat.mul_one]) hd.news h1 (by unfold maxLen; omega) (by omega) hbase
  unfold Oper.wp execOp
  simp only [ho, resolve, invoke, builtin, Sem.run_bind, Sem.run_pure, Result.andThen_ok, List.map_toArray, List.map_cons, List.map_nil, hs, hx, hr]
  refine h v' w' ?_ h3
  unfold OwnV
  rw [List.length_append, hm]
  exact h2
theorem none_row2 {w w1 w2 : World} {row : Option Nat} (h : w.grownBy w1 none) (hg : w1.grownBy w2 row) (hr : ∀ k, row = some k → w.heap.size ≤ k) : w.grownBy w2 none :=
  ⟨hg.os.trans h.os, hg.tape.trans h.tape, hg.output.trans h.output, Nat.le_trans h.size hg.size, fun j hj _ => (hg.block j (by have := h.size; omega) (fun e => by have := hr j e.symm; omega)).trans (h.block j hj (by simp))⟩
theorem none_trans2 {w w1 w2 : World} (h : w.grownBy w1 none) (hg : w1.grownBy w2 none) : w.grownBy w2 none := grown_trans h hg
theorem getD_falseV {L : Array Bool} {i : Nat} (h : L.getD i true = false) (hi : i < L.size) : L.getD i false = false := by
  rw [Array.getD_eq_getD_getElem?, Array.getElem?_eq_getElem hi] at h ⊢
  exact h
/-- The rows of a memory as values. -/
theorem Mem.cells {w : World} {B : Nat} {a : Option Addr} {ls : List (List Int)} (h : Mem w B a ls) (h0 : 0 < ls.length) : ∃ g off vs, a = some ⟨g, off, none⟩ ∧ vs.length = ls.length ∧ Cells1 w B (some ⟨g, off, none⟩) vs ∧ (∀ v ∈ vs, v.oneCell' = true) ∧
    ∀ i, i < ls.length → ∃ ra rc, vs.getD i nilV = .slice ra (ls.getD i []).length rc ∧ (ls.getD i []).length ≤ rc ∧ IntsB w B ra (ls.getD i []) := by
  rcases h with h | ⟨b, off, rfl, hb, hc⟩
  · subst h; simp at h0
  · have hlen : (rowV w b off ls.length).length = ls.length := by simp [rowV]
    refine ⟨b, off, rowV w b off ls.length, rfl, hlen, .inr ⟨b, off, rfl, hb, fun i hi => ?_⟩, fun v hv => ?_, fun i hi => ?_⟩
    · rw [hlen] at hi
      obtain ⟨ra, rc, h1, _⟩ := hc i hi
      rw [rowV_get hi, h1]; rfl
    · obtain ⟨i, hi, rfl⟩ := List.getElem_of_mem hv
      have hi' : i < ls.length := by rw [hlen] at hi; exact hi
      obtain ⟨ra, rc, h1, _⟩ := hc i hi'
      have := rowV_get (w := w) (b := b) (off := off) hi'
      rw [List.getD_eq_getElem?_getD, List.getElem?_eq_getElem hi, h1] at this
      simp only [Option.getD_some] at this
      rw [this]; rfl
    · obtain ⟨ra, rc, h1, h2, h3⟩ := hc i hi
      exact ⟨ra, rc, by rw [rowV_get hi, h1]; rfl, h2, h3⟩
theorem IntsB.up {w : World} {B B' : Nat} {a : Option Addr} {l : List Int} (h : IntsB w B a l) (hB : B ≤ B') : IntsB w B' a l := by
  rcases h with h | ⟨b, off, ha, hb, hc⟩
  · exact .inl h
  · exact .inr ⟨b, off, ha, by omega, hc⟩
/-- A row of values with one row changed reads as a list of lists. -/
theorem mem_of_own {w : World} {base g n cap k : Nat} {vs : List Value} {ls : List (List Int)} {r : Value} {l : List Int}
    (ho : OwnV w base (.slice (some ⟨g, 0, none⟩) n cap) (vs.set k r)) (hg : g < w.heap.size) (hv : vs.length = ls.length)
    (hvs : ∀ i, i < ls.length → ∃ ra rc, vs.getD i nilV = .slice ra (ls.getD i []).length rc ∧ (ls.getD i []).length ≤ rc ∧ IntsB w w.heap.size ra (ls.getD i []))
    (hr : ∃ ra rc, r = .slice ra l.length rc ∧ l.length ≤ rc ∧ IntsB w w.heap.size ra l) (hk : k < ls.length) : Mem w w.heap.size (some ⟨g, 0, none⟩) (ls.set k l) := by
  refine .inr ⟨g, 0, rfl, hg, fun i hi => ?_⟩
  rw [List.length_set] at hi
  have hn : n = (vs.set k r).length := by
    rcases ho.2 with ⟨e, _⟩ | ⟨g', cap', cur, e, _⟩
    · cases e
    · have e := e
      simp only [Value.slice.injEq] at e
      exact e.2.1
  have hc := World.ownsRow.cellAt (hn ▸ ho) i (by rw [List.length_set]; omega)
  rw [getD_some _ i nilV (by rw [List.length_set]; omega), getD_setV _ _ _ _ _ (by omega)] at hc
  rw [getD_setL _ _ _ _ hk, Nat.zero_add]
  by_cases e : i = k
  · rw [if_pos e] at hc ⊢
    obtain ⟨ra, rc, rfl, h2, h3⟩ := hr
    exact ⟨ra, rc, hc, h2, h3⟩
  · rw [if_neg e] at hc ⊢
    obtain ⟨ra, rc, h1, h2, h3⟩ := hvs i hi
    rw [h1] at hc
    exact ⟨ra, rc, hc, h2, h3⟩
theorem mv_far {ls : List (List Int)} {k : Nat} (hk : k < ls.length) : mvB (ls.set k [1, 2, 3, 10000]) = false := by
  unfold mvB
  have : (ls.set k [1, 2, 3, 10000]).all wdB = false := allL_no (j := k) (by rw [List.length_set]; exact hk) (by rw [getD_setL _ _ _ _ hk, if_pos rfl]; decide)
  rw [this, Bool.and_false]
theorem small_put {ls : List (List Int)} (hv : mvB ls = true) (k : Nat) (l : List Int) (hl : l.length = 4) : Small (ls.set k l) := by
  obtain ⟨h1, h2, _⟩ := mv_shape hv
  refine Small.of (by rw [List.length_set]; omega) (fun i hi => ?_)
  rw [List.length_set] at hi
  rcases Nat.lt_or_ge k ls.length with hk | hk
  · rw [getD_setL _ _ _ _ hk]
    split
    · omega
    · rw [h2 i (by omega)]; omega
  · rw [List.set_eq_of_length_le hk, h2 i (by omega)]; omega
set_option maxHeartbeats 400000 in
theorem implMemoryValid_short (a : Option Addr) (cap : Nat) (w : World) :
    Calls Try.prog 10 #[.slice a 11 cap] w fun e w' => e = .returned (.bool false) ∧ w = w' := by
  go_enter Try.func10, Try.ntmps10
  go_wp2_with fail
  go_ret
  exact ⟨rfl, rfl⟩
structure InvM (wc : World) (vs : List Value) (g off n c1 k : Nat) (c0 cA c2 c3 c4 c5 c6 c7 c8 c10 c11 c12 c13 c14 c15 c16 c17 c18 c19 c20 c21 c22 c23 c24 c25 c26 c27 c28 c29 c30 c31 c32 c33 c34 c35 c36 c37 c48 c49 c50 c51 c52 c53 c54 c55 c56 c57 c58 c59 c60 c61 c62 : Value) (L : Array Bool) (act : Act) (w : World) : Prop where
  ex : ∃ u9 u38 u39 u40 u41 u42 u43 u44 u45 u46 u47 : Value, act = ⟨(c0 :: cA :: c2 :: c3 :: c4 :: c5 :: c6 :: c7 :: c8 :: u9 :: c10 :: c11 :: c12 :: c13 :: c14 :: c15 :: c16 :: c17 :: c18 :: c19 :: c20 :: c21 :: c22 :: c23 :: c24 :: c25 :: c26 :: c27 :: c28 :: c29 :: c30 :: c31 :: c32 :: c33 :: c34 :: c35 :: c36 :: c37 :: u38 :: u39 :: u40 :: u41 :: u42 :: u43 :: u44 :: u45 :: u46 :: u47 :: c48 :: c49 :: c50 :: c51 :: c52 :: c53 :: c54 :: c55 :: c56 :: c57 :: c58 :: c59 :: c60 :: c61 :: c62 :: []).toArray, []⟩ ∧ wc.grownBy w none ∧
    (L.getD 0 false = true → L.getD 4 false = false → OwnV w wc.heap.size u38 []) ∧
    (L.getD 1 false = true → u39 = .slice (some ⟨g, off, none⟩) n c1) ∧
    (L.getD 2 false = true → u40 = .int .i64 (k : Int)) ∧
    (L.getD 3 false = true → ∃ m c, u41 = .slice (some ⟨g, off, none⟩) m c ∧ (vs.take k).length = m) ∧
    (L.getD 4 false = true → L.getD 9 false = false → OwnV w wc.heap.size u42 (vs.take k)) ∧
    (L.getD 5 false = true → u43 = .slice (some ⟨g, off, none⟩) n c1) ∧
    (L.getD 6 false = true → u44 = .int .i64 (k : Int)) ∧
    (L.getD 7 false = true → u45 = .int .i64 ((k : Int) + 1)) ∧
    (L.getD 8 false = true → ∃ o m c, u46 = .slice (some ⟨g, o, none⟩) m c ∧ (vs.drop (k + 1)).length = m ∧ Cells1 wc wc.heap.size (some ⟨g, o, none⟩) (vs.drop (k + 1))) ∧
    (L.getD 9 false = true → OwnV w wc.heap.size u47 (vs.take k ++ vs.drop (k + 1))) ∧
    (L.getD 10 false = true → u9 = u47) ∧
    (L.getD 9 false = true → L.getD 4 false = true) ∧
    (L.getD 10 false = true → L.getD 9 false = true)
set_option maxHeartbeats 1000000 in
theorem FnMemoryPart_w (a : Option Addr) (len cap : Nat) (a' : Option Addr) (len' cap' : Nat) (w : World) (hB : Bytes w w.heap.size a len) (hc : len ≤ cap) (hm : len ≤ maxLen) (_hB' : Bytes w w.heap.size a' len') (_hc' : len' ≤ cap') (hm' : len' ≤ maxLen) :
    Calls Try.prog 3 #[.slice a len cap, .slice a' len' cap'] w fun e w' => e = .returned (.bool true) ∧ Below w.heap.size w w' := by
  have HBY := Lib.hid hB
  clear hB _hB' _hc'
  by_cases hlong : 1048576 < len
  · have hlong' : (1048576 : Int) < (len : Int) := by omega
    unfold maxLen at hm hm'
    go_enter Try.func3, Try.ntmps3
    go_wp2_with fail
    go_ret
    exact ⟨rfl, Below.refl _ _⟩
  · have hlong' : ¬ (1048576 : Int) < (len : Int) := by omega
    by_cases hlong2 : 1048576 < len'
    · have hlong2' : (1048576 : Int) < (len' : Int) := by omega
      unfold maxLen at hm hm'
      go_enter Try.func3, Try.ntmps3
      go_wp2_with fail
      go_ret
      exact ⟨rfl, Below.refl _ _⟩
    · have hlong2' : ¬ (1048576 : Int) < (len' : Int) := by omega
      go_enter Try.func3, Try.ntmps3
      go_wp2_with fail
      refine (DrawMemoryValid_c a len cap w HBY.out hc hm).mono ?_
      rintro e wc ⟨v1, ls, rfl, hd⟩
      have HS := Lib.hid hd.small
      obtain ⟨x1, c1, rfl, hk1, hx1, hm1⟩ := hd.1.mem
      have HM1 := Lib.hid hm1
      have HB1 := Lib.hid hd.2.2.2
      clear hd hm1
      go_wp2_with fail
      refine (implMemoryValid_c wc.heap.size x1 c1 ls _ HM1.out HS.out).mono ?_
      rintro e w' ⟨rfl, rfl⟩
      go_wp2_with fail
      refine (specMemoryValid_c wc.heap.size x1 c1 ls _ HM1.out HS.out).mono ?_
      rintro e w' ⟨rfl, rfl⟩
      rcases hv : mvB ls
      · go_wp2_with fail
        go_ret
        exact ⟨rfl, HB1.out⟩
      · have HV := Lib.hid hv
        have hl12 := (mv_shape hv).1
        clear hv
        obtain ⟨k, hk⟩ : ∃ k, k = len' % 12 := ⟨_, rfl⟩
        have hkl : k < ls.length := by rw [hk, hl12]; exact Nat.mod_lt _ (by omega)
        have hkm : (len' : Int).tmod 12 = (k : Int) := by rw [hk, Int.tmod_eq_emod_of_nonneg (by omega)]; rfl
        clear hk
        obtain ⟨g, off, vs, rfl, hvl, hcs, h1c, hrows⟩ := HM1.out.cells (by omega)
        unfold maxLen at hx1
        have HVL : Hid (vs.length = 12) := hvl.trans hl12
        have HVS := Lib.hid hvl
        have HCK := Lib.hid hcs
        have H1C := Lib.hid h1c
        have HRW := Lib.hid hrows
        have HLS : Hid (vs.length ≤ 12) := by show _ ≤ _; omega
        have HWR : Hid (IntKind.i64.wrap ((k : Int) + 1) = (k : Int) + 1) := IntWalk.i64_in _ (by omega)
        have HL1 : Hid ((vs.take k).length = k) := by show _ = _; rw [List.length_take]; omega
        have HL2 : Hid ((vs.drop (k + 1)).length = 12 - (k + 1)) := by show _ = _; rw [List.length_drop, hvl, hl12]
        have HC2 : Hid (∃ o, (if c1 = k + 1 then some (⟨g, off, none⟩ : Addr) else some ⟨g, off + (k + 1), none⟩) = some ⟨g, o, none⟩ ∧ Cells1 wc wc.heap.size (some ⟨g, o, none⟩) (vs.drop (k + 1))) := by
          by_cases h : c1 = k + 1
          · exact ⟨off, by rw [if_pos h], .inl (List.drop_eq_nil_of_le (by omega))⟩
          · exact ⟨off + (k + 1), by rw [if_neg h], HCK.out.dropK (k + 1)⟩
        have HT1 : Hid (∀ v ∈ vs.take k, v.oneCell' = true) := fun v hv => h1c v (List.mem_of_mem_take hv)
        have HT2 : Hid (∀ v ∈ vs.drop (k + 1), v.oneCell' = true) := fun v hv => h1c v (List.mem_of_mem_drop hv)
        have hkc : k ≤ c1 := by omega
        have hkd : k ≤ 12 := by omega
        have hke : (0 : Int) ≤ (k : Int) + 1 := by omega
        have hkf : (k : Int) + 1 ≤ 12 := by omega
        clear hvl hcs h1c hrows
        go_wp2_with fail
        refine wp_region_inv (by kernel_rfl) (InvM wc vs g off 12 c1 k (.slice a len cap) (.slice a' len' cap') undef undef (.bool false) (.slice (some ⟨g, off, none⟩) 12 c1) (.bool true) (.bool true) (.int .i64 (k : Int)) undef (.slice a len cap) (.int .i64 (len : Int)) (.bool false) (.bool false) (.slice a' len' cap') (.int .i64 (len' : Int)) (.bool false) (.bool false) (.slice a len cap) (.slice (some ⟨g, off, none⟩) 12 c1) (.slice (some ⟨g, off, none⟩) 12 c1) (.bool true) (.slice (some ⟨g, off, none⟩) 12 c1) (.bool true) (.bool true) (.bool true) (.bool false) (.bool false) (.bool true) (.bool false) (.bool false) undef undef undef (.slice a' len' cap') (.int .i64 (len' : Int)) (.int .i64 (k : Int)) undef undef undef undef undef undef undef undef undef undef undef undef undef undef undef) (by kernel_rfl) ?_ ?_ ?_
        · exact ⟨_, _, _, _, _, _, _, _, _, _, _, rfl, drewN_none wc 1, by simp, by simp, by simp, by simp, by simp, by simp, by simp, by simp, by simp, by simp, by simp, by simp, by simp⟩
        · rintro L act W i hs ⟨u9, u38, u39, u40, u41, u42, u43, u44, u45, u46, u47, rfl, hG, p_b, p_v1, p_k1, p_s1, p_a1, p_v2, p_k2, p_ad, p_s2, p_a2, p_z, p_q1, p_q2⟩ hi hl hd
          have hi' : i < 11 := hi
          have hc' : i = 0 ∨ i = 1 ∨ i = 2 ∨ i = 3 ∨ i = 4 ∨ i = 5 ∨ i = 6 ∨ i = 7 ∨ i = 8 ∨ i = 9 ∨ i = 10 := by omega
          rcases hc' with rfl | rfl | rfl | rfl | rfl | rfl | rfl | rfl | rfl | rfl | rfl
          · have hLf : L.getD 0 false = false := getD_falseV hl (by rw [hs]; decide)
            have hsz : 0 < L.size := by rw [hs]; decide
            have E1 : (L.setIfInBounds 0 true).getD 1 false = L.getD 1 false := by rw [getD_setB _ _ _ _ hsz, if_neg (by decide)]
            have E2 : (L.setIfInBounds 0 true).getD 2 false = L.getD 2 false := by rw [getD_setB _ _ _ _ hsz, if_neg (by decide)]
            have E3 : (L.setIfInBounds 0 true).getD 3 false = L.getD 3 false := by rw [getD_setB _ _ _ _ hsz, if_neg (by decide)]
            have E4 : (L.setIfInBounds 0 true).getD 4 false = L.getD 4 false := by rw [getD_setB _ _ _ _ hsz, if_neg (by decide)]
            have E5 : (L.setIfInBounds 0 true).getD 5 false = L.getD 5 false := by rw [getD_setB _ _ _ _ hsz, if_neg (by decide)]
            have E6 : (L.setIfInBounds 0 true).getD 6 false = L.getD 6 false := by rw [getD_setB _ _ _ _ hsz, if_neg (by decide)]
            have E7 : (L.setIfInBounds 0 true).getD 7 false = L.getD 7 false := by rw [getD_setB _ _ _ _ hsz, if_neg (by decide)]
            have E8 : (L.setIfInBounds 0 true).getD 8 false = L.getD 8 false := by rw [getD_setB _ _ _ _ hsz, if_neg (by decide)]
            have E9 : (L.setIfInBounds 0 true).getD 9 false = L.getD 9 false := by rw [getD_setB _ _ _ _ hsz, if_neg (by decide)]
            have E10 : (L.setIfInBounds 0 true).getD 10 false = L.getD 10 false := by rw [getD_setB _ _ _ _ hsz, if_neg (by decide)]
            have E0 : (L.setIfInBounds 0 true).getD 0 false = true := by rw [getD_setB _ _ _ _ hsz, if_pos rfl]
            refine wpOp_run rfl rfl fun K hK => ?_
            clear hd hs hi hl
            go_simp
            have ha : W.grownBy (W.alloc (.cells #[] 26)) none := World.grownBy_alloc _ _ _
            have hz := hG.size
            refine hK _ _ ⟨_, _, _, _, _, _, _, _, _, _, _, rfl, none_trans2 hG ha, ?_, ?_, ?_, ?_, ?_, ?_, ?_, ?_, ?_, ?_, ?_, ?_, ?_⟩
            all_goals simp only [E0, E1, E2, E3, E4, E5, E6, E7, E8, E9, E10]
            · first | exact fun _ _ => OwnV.lit W _ hz | exact fun _ => trivial | (intros; trivial)
            · first | exact p_v1 | exact fun _ => trivial | (intros; trivial)
            · first | exact p_k1 | exact fun _ => trivial | (intros; trivial)
            · first | exact p_s1 | exact fun _ => trivial | (intros; trivial)
            · first | exact fun h h2 => (p_a1 h h2).gnone ha | exact fun _ => trivial | (intros; trivial)
            · first | exact p_v2 | exact fun _ => trivial | (intros; trivial)
            · first | exact p_k2 | exact fun _ => trivial | (intros; trivial)
            · first | exact p_ad | exact fun _ => trivial | (intros; trivial)
            · first | exact p_s2 | exact fun _ => trivial | (intros; trivial)
            · first | exact fun h => (p_a2 h).gnone ha | exact fun _ => trivial | (intros; trivial)
            · first | exact p_z | exact fun _ => trivial | (intros; trivial)
            · first | exact p_q1 | exact fun _ => trivial | (intros; trivial)
            · first | exact p_q2 | exact fun _ => trivial | (intros; trivial)
          · have hLf : L.getD 1 false = false := getD_falseV hl (by rw [hs]; decide)
            have hsz : 1 < L.size := by rw [hs]; decide
            have E0 : (L.setIfInBounds 1 true).getD 0 false = L.getD 0 false := by rw [getD_setB _ _ _ _ hsz, if_neg (by decide)]
            have E2 : (L.setIfInBounds 1 true).getD 2 false = L.getD 2 false := by rw [getD_setB _ _ _ _ hsz, if_neg (by decide)]
            have E3 : (L.setIfInBounds 1 true).getD 3 false = L.getD 3 false := by rw [getD_setB _ _ _ _ hsz, if_neg (by decide)]
            have E4 : (L.setIfInBounds 1 true).getD 4 false = L.getD 4 false := by rw [getD_setB _ _ _ _ hsz, if_neg (by decide)]
            have E5 : (L.setIfInBounds 1 true).getD 5 false = L.getD 5 false := by rw [getD_setB _ _ _ _ hsz, if_neg (by decide)]
            have E6 : (L.setIfInBounds 1 true).getD 6 false = L.getD 6 false := by rw [getD_setB _ _ _ _ hsz, if_neg (by decide)]
            have E7 : (L.setIfInBounds 1 true).getD 7 false = L.getD 7 false := by rw [getD_setB _ _ _ _ hsz, if_neg (by decide)]
            have E8 : (L.setIfInBounds 1 true).getD 8 false = L.getD 8 false := by rw [getD_setB _ _ _ _ hsz, if_neg (by decide)]
            have E9 : (L.setIfInBounds 1 true).getD 9 false = L.getD 9 false := by rw [getD_setB _ _ _ _ hsz, if_neg (by decide)]
            have E10 : (L.setIfInBounds 1 true).getD 10 false = L.getD 10 false := by rw [getD_setB _ _ _ _ hsz, if_neg (by decide)]
            have E1 : (L.setIfInBounds 1 true).getD 1 false = true := by rw [getD_setB _ _ _ _ hsz, if_pos rfl]
            refine wpOp_run rfl rfl fun K hK => ?_
            clear hd hs hi hl
            go_simp
            refine hK _ _ ⟨_, _, _, _, _, _, _, _, _, _, _, rfl, hG, ?_, ?_, ?_, ?_, ?_, ?_, ?_, ?_, ?_, ?_, ?_, ?_, ?_⟩
            all_goals simp only [E0, E1, E2, E3, E4, E5, E6, E7, E8, E9, E10]
            · first | exact p_b | exact fun _ => trivial | (intros; trivial)
            · first | exact fun _ => rfl | exact fun _ => trivial | (intros; trivial)
            · first | exact p_k1 | exact fun _ => trivial | (intros; trivial)
            · first | exact p_s1 | exact fun _ => trivial | (intros; trivial)
            · first | exact p_a1 | exact fun _ => trivial | (intros; trivial)
            · first | exact p_v2 | exact fun _ => trivial | (intros; trivial)
            · first | exact p_k2 | exact fun _ => trivial | (intros; trivial)
            · first | exact p_ad | exact fun _ => trivial | (intros; trivial)
            · first | exact p_s2 | exact fun _ => trivial | (intros; trivial)
            · first | exact p_a2 | exact fun _ => trivial | (intros; trivial)
            · first | exact p_z | exact fun _ => trivial | (intros; trivial)
            · first | exact p_q1 | exact fun _ => trivial | (intros; trivial)
            · first | exact p_q2 | exact fun _ => trivial | (intros; trivial)
          · have hLf : L.getD 2 false = false := getD_falseV hl (by rw [hs]; decide)
            have hsz : 2 < L.size := by rw [hs]; decide
            have E0 : (L.setIfInBounds 2 true).getD 0 false = L.getD 0 false := by rw [getD_setB _ _ _ _ hsz, if_neg (by decide)]
            have E1 : (L.setIfInBounds 2 true).getD 1 false = L.getD 1 false := by rw [getD_setB _ _ _ _ hsz, if_neg (by decide)]
            have E3 : (L.setIfInBounds 2 true).getD 3 false = L.getD 3 false := by rw [getD_setB _ _ _ _ hsz, if_neg (by decide)]
            have E4 : (L.setIfInBounds 2 true).getD 4 false = L.getD 4 false := by rw [getD_setB _ _ _ _ hsz, if_neg (by decide)]
            have E5 : (L.setIfInBounds 2 true).getD 5 false = L.getD 5 false := by rw [getD_setB _ _ _ _ hsz, if_neg (by decide)]
            have E6 : (L.setIfInBounds 2 true).getD 6 false = L.getD 6 false := by rw [getD_setB _ _ _ _ hsz, if_neg (by decide)]
            have E7 : (L.setIfInBounds 2 true).getD 7 false = L.getD 7 false := by rw [getD_setB _ _ _ _ hsz, if_neg (by decide)]
            have E8 : (L.setIfInBounds 2 true).getD 8 false = L.getD 8 false := by rw [getD_setB _ _ _ _ hsz, if_neg (by decide)]
            have E9 : (L.setIfInBounds 2 true).getD 9 false = L.getD 9 false := by rw [getD_setB _ _ _ _ hsz, if_neg (by decide)]
            have E10 : (L.setIfInBounds 2 true).getD 10 false = L.getD 10 false := by rw [getD_setB _ _ _ _ hsz, if_neg (by decide)]
            have E2 : (L.setIfInBounds 2 true).getD 2 false = true := by rw [getD_setB _ _ _ _ hsz, if_pos rfl]
            refine wpOp_run rfl rfl fun K hK => ?_
            clear hd hs hi hl
            go_simp
            refine hK _ _ ⟨_, _, _, _, _, _, _, _, _, _, _, rfl, hG, ?_, ?_, ?_, ?_, ?_, ?_, ?_, ?_, ?_, ?_, ?_, ?_, ?_⟩
            all_goals simp only [E0, E1, E2, E3, E4, E5, E6, E7, E8, E9, E10]
            · first | exact p_b | exact fun _ => trivial | (intros; trivial)
            · first | exact p_v1 | exact fun _ => trivial | (intros; trivial)
            · first | exact fun _ => rfl | exact fun _ => trivial | (intros; trivial)
            · first | exact p_s1 | exact fun _ => trivial | (intros; trivial)
            · first | exact p_a1 | exact fun _ => trivial | (intros; trivial)
            · first | exact p_v2 | exact fun _ => trivial | (intros; trivial)
            · first | exact p_k2 | exact fun _ => trivial | (intros; trivial)
            · first | exact p_ad | exact fun _ => trivial | (intros; trivial)
            · first | exact p_s2 | exact fun _ => trivial | (intros; trivial)
            · first | exact p_a2 | exact fun _ => trivial | (intros; trivial)
            · first | exact p_z | exact fun _ => trivial | (intros; trivial)
            · first | exact p_q1 | exact fun _ => trivial | (intros; trivial)
            · first | exact p_q2 | exact fun _ => trivial | (intros; trivial)
          · have hLf : L.getD 3 false = false := getD_falseV hl (by rw [hs]; decide)
            have hsz : 3 < L.size := by rw [hs]; decide
            have E0 : (L.setIfInBounds 3 true).getD 0 false = L.getD 0 false := by rw [getD_setB _ _ _ _ hsz, if_neg (by decide)]
            have E1 : (L.setIfInBounds 3 true).getD 1 false = L.getD 1 false := by rw [getD_setB _ _ _ _ hsz, if_neg (by decide)]
            have E2 : (L.setIfInBounds 3 true).getD 2 false = L.getD 2 false := by rw [getD_setB _ _ _ _ hsz, if_neg (by decide)]
            have E4 : (L.setIfInBounds 3 true).getD 4 false = L.getD 4 false := by rw [getD_setB _ _ _ _ hsz, if_neg (by decide)]
            have E5 : (L.setIfInBounds 3 true).getD 5 false = L.getD 5 false := by rw [getD_setB _ _ _ _ hsz, if_neg (by decide)]
            have E6 : (L.setIfInBounds 3 true).getD 6 false = L.getD 6 false := by rw [getD_setB _ _ _ _ hsz, if_neg (by decide)]
            have E7 : (L.setIfInBounds 3 true).getD 7 false = L.getD 7 false := by rw [getD_setB _ _ _ _ hsz, if_neg (by decide)]
            have E8 : (L.setIfInBounds 3 true).getD 8 false = L.getD 8 false := by rw [getD_setB _ _ _ _ hsz, if_neg (by decide)]
            have E9 : (L.setIfInBounds 3 true).getD 9 false = L.getD 9 false := by rw [getD_setB _ _ _ _ hsz, if_neg (by decide)]
            have E10 : (L.setIfInBounds 3 true).getD 10 false = L.getD 10 false := by rw [getD_setB _ _ _ _ hsz, if_neg (by decide)]
            have E3 : (L.setIfInBounds 3 true).getD 3 false = true := by rw [getD_setB _ _ _ _ hsz, if_pos rfl]
            have d_v1 := hd _ rfl ⟨1, .data⟩ (by simp) rfl
            have d_k1 := hd _ rfl ⟨2, .data⟩ (by simp) rfl
            obtain rfl := p_v1 d_v1
            obtain rfl := p_k1 d_k1
            refine wpOp_run rfl rfl fun K hK => ?_
            clear hd hs hi hl
            go_simp
            refine hK _ _ ⟨_, _, _, _, _, _, _, _, _, _, _, rfl, hG, ?_, ?_, ?_, ?_, ?_, ?_, ?_, ?_, ?_, ?_, ?_, ?_, ?_⟩
            all_goals simp only [E0, E1, E2, E3, E4, E5, E6, E7, E8, E9, E10]
            · first | exact p_b | exact fun _ => trivial | (intros; trivial)
            · first | exact p_v1 | exact fun _ => trivial | (intros; trivial)
            · first | exact p_k1 | exact fun _ => trivial | (intros; trivial)
            · exact fun _ => ⟨_, _, rfl, HL1.out⟩
            · first | exact p_a1 | exact fun _ => trivial | (intros; trivial)
            · first | exact p_v2 | exact fun _ => trivial | (intros; trivial)
            · first | exact p_k2 | exact fun _ => trivial | (intros; trivial)
            · first | exact p_ad | exact fun _ => trivial | (intros; trivial)
            · first | exact p_s2 | exact fun _ => trivial | (intros; trivial)
            · first | exact p_a2 | exact fun _ => trivial | (intros; trivial)
            · first | exact p_z | exact fun _ => trivial | (intros; trivial)
            · first | exact p_q1 | exact fun _ => trivial | (intros; trivial)
            · first | exact p_q2 | exact fun _ => trivial | (intros; trivial)
          · have hLf : L.getD 4 false = false := getD_falseV hl (by rw [hs]; decide)
            have hsz : 4 < L.size := by rw [hs]; decide
            have E0 : (L.setIfInBounds 4 true).getD 0 false = L.getD 0 false := by rw [getD_setB _ _ _ _ hsz, if_neg (by decide)]
            have E1 : (L.setIfInBounds 4 true).getD 1 false = L.getD 1 false := by rw [getD_setB _ _ _ _ hsz, if_neg (by decide)]
            have E2 : (L.setIfInBounds 4 true).getD 2 false = L.getD 2 false := by rw [getD_setB _ _ _ _ hsz, if_neg (by decide)]
            have E3 : (L.setIfInBounds 4 true).getD 3 false = L.getD 3 false := by rw [getD_setB _ _ _ _ hsz, if_neg (by decide)]
            have E5 : (L.setIfInBounds 4 true).getD 5 false = L.getD 5 false := by rw [getD_setB _ _ _ _ hsz, if_neg (by decide)]
            have E6 : (L.setIfInBounds 4 true).getD 6 false = L.getD 6 false := by rw [getD_setB _ _ _ _ hsz, if_neg (by decide)]
            have E7 : (L.setIfInBounds 4 true).getD 7 false = L.getD 7 false := by rw [getD_setB _ _ _ _ hsz, if_neg (by decide)]
            have E8 : (L.setIfInBounds 4 true).getD 8 false = L.getD 8 false := by rw [getD_setB _ _ _ _ hsz, if_neg (by decide)]
            have E9 : (L.setIfInBounds 4 true).getD 9 false = L.getD 9 false := by rw [getD_setB _ _ _ _ hsz, if_neg (by decide)]
            have E10 : (L.setIfInBounds 4 true).getD 10 false = L.getD 10 false := by rw [getD_setB _ _ _ _ hsz, if_neg (by decide)]
            have E4 : (L.setIfInBounds 4 true).getD 4 false = true := by rw [getD_setB _ _ _ _ hsz, if_pos rfl]
            have d_b := hd _ rfl ⟨0, .data⟩ (by simp) rfl
            have d_s1 := hd _ rfl ⟨3, .data⟩ (by simp) rfl
            obtain ⟨m, c, rfl, hm⟩ := p_s1 d_s1
            have o0 := p_b d_b hLf
            refine wpOp_run rfl rfl fun K hK => ?_
            clear hd hs hi hl
            have hz := hG.size
            refine wp_appV_at (.tmp 38) (.tmp 41) rfl wc.heap.size u38 [] rfl o0 wc.heap.size g off m c (vs.take k) rfl hm ((HCK.out.gnone hG (Nat.le_refl _)).take _) HT1.out (by have := HLS.out; simp; omega) hz ?_
            intro v' w' ho hg
            have hl0 : ∀ j, u38.ownBlock = some j → wc.heap.size ≤ j := fun j e => (o0.lt j e).1
            refine hK _ _ ⟨_, _, _, _, _, _, _, _, _, _, _, rfl, none_row2 hG hg hl0, ?_, ?_, ?_, ?_, ?_, ?_, ?_, ?_, ?_, ?_, ?_, ?_, ?_⟩
            all_goals simp only [E0, E1, E2, E3, E4, E5, E6, E7, E8, E9, E10]
            · exact fun _ h => by cases h
            · first | exact p_v1 | exact fun _ => trivial | (intros; trivial)
            · first | exact p_k1 | exact fun _ => trivial | (intros; trivial)
            · first | exact p_s1 | exact fun _ => trivial | (intros; trivial)
            · exact fun _ _ => by simpa using ho
            · first | exact p_v2 | exact fun _ => trivial | (intros; trivial)
            · first | exact p_k2 | exact fun _ => trivial | (intros; trivial)
            · first | exact p_ad | exact fun _ => trivial | (intros; trivial)
            · first | exact p_s2 | exact fun _ => trivial | (intros; trivial)
            · intro h; exact absurd (p_q1 h) (by rw [hLf]; decide)
            · first | exact p_z | exact fun _ => trivial | (intros; trivial)
            · first | exact fun _ => rfl | exact fun _ => trivial | (intros; trivial)
            · first | exact p_q2 | exact fun _ => trivial | (intros; trivial)
          · have hLf : L.getD 5 false = false := getD_falseV hl (by rw [hs]; decide)
            have hsz : 5 < L.size := by rw [hs]; decide
            have E0 : (L.setIfInBounds 5 true).getD 0 false = L.getD 0 false := by rw [getD_setB _ _ _ _ hsz, if_neg (by decide)]
            have E1 : (L.setIfInBounds 5 true).getD 1 false = L.getD 1 false := by rw [getD_setB _ _ _ _ hsz, if_neg (by decide)]
            have E2 : (L.setIfInBounds 5 true).getD 2 false = L.getD 2 false := by rw [getD_setB _ _ _ _ hsz, if_neg (by decide)]
            have E3 : (L.setIfInBounds 5 true).getD 3 false = L.getD 3 false := by rw [getD_setB _ _ _ _ hsz, if_neg (by decide)]
            have E4 : (L.setIfInBounds 5 true).getD 4 false = L.getD 4 false := by rw [getD_setB _ _ _ _ hsz, if_neg (by decide)]
            have E6 : (L.setIfInBounds 5 true).getD 6 false = L.getD 6 false := by rw [getD_setB _ _ _ _ hsz, if_neg (by decide)]
            have E7 : (L.setIfInBounds 5 true).getD 7 false = L.getD 7 false := by rw [getD_setB _ _ _ _ hsz, if_neg (by decide)]
            have E8 : (L.setIfInBounds 5 true).getD 8 false = L.getD 8 false := by rw [getD_setB _ _ _ _ hsz, if_neg (by decide)]
            have E9 : (L.setIfInBounds 5 true).getD 9 false = L.getD 9 false := by rw [getD_setB _ _ _ _ hsz, if_neg (by decide)]
            have E10 : (L.setIfInBounds 5 true).getD 10 false = L.getD 10 false := by rw [getD_setB _ _ _ _ hsz, if_neg (by decide)]
            have E5 : (L.setIfInBounds 5 true).getD 5 false = true := by rw [getD_setB _ _ _ _ hsz, if_pos rfl]
            refine wpOp_run rfl rfl fun K hK => ?_
            clear hd hs hi hl
            go_simp
            refine hK _ _ ⟨_, _, _, _, _, _, _, _, _, _, _, rfl, hG, ?_, ?_, ?_, ?_, ?_, ?_, ?_, ?_, ?_, ?_, ?_, ?_, ?_⟩
            all_goals simp only [E0, E1, E2, E3, E4, E5, E6, E7, E8, E9, E10]
            · first | exact p_b | exact fun _ => trivial | (intros; trivial)
            · first | exact p_v1 | exact fun _ => trivial | (intros; trivial)
            · first | exact p_k1 | exact fun _ => trivial | (intros; trivial)
            · first | exact p_s1 | exact fun _ => trivial | (intros; trivial)
            · first | exact p_a1 | exact fun _ => trivial | (intros; trivial)
            · first | exact fun _ => rfl | exact fun _ => trivial | (intros; trivial)
            · first | exact p_k2 | exact fun _ => trivial | (intros; trivial)
            · first | exact p_ad | exact fun _ => trivial | (intros; trivial)
            · first | exact p_s2 | exact fun _ => trivial | (intros; trivial)
            · first | exact p_a2 | exact fun _ => trivial | (intros; trivial)
            · first | exact p_z | exact fun _ => trivial | (intros; trivial)
            · first | exact p_q1 | exact fun _ => trivial | (intros; trivial)
            · first | exact p_q2 | exact fun _ => trivial | (intros; trivial)
          · have hLf : L.getD 6 false = false := getD_falseV hl (by rw [hs]; decide)
            have hsz : 6 < L.size := by rw [hs]; decide
            have E0 : (L.setIfInBounds 6 true).getD 0 false = L.getD 0 false := by rw [getD_setB _ _ _ _ hsz, if_neg (by decide)]
            have E1 : (L.setIfInBounds 6 true).getD 1 false = L.getD 1 false := by rw [getD_setB _ _ _ _ hsz, if_neg (by decide)]
            have E2 : (L.setIfInBounds 6 true).getD 2 false = L.getD 2 false := by rw [getD_setB _ _ _ _ hsz, if_neg (by decide)]
            have E3 : (L.setIfInBounds 6 true).getD 3 false = L.getD 3 false := by rw [getD_setB _ _ _ _ hsz, if_neg (by decide)]
            have E4 : (L.setIfInBounds 6 true).getD 4 false = L.getD 4 false := by rw [getD_setB _ _ _ _ hsz, if_neg (by decide)]
            have E5 : (L.setIfInBounds 6 true).getD 5 false = L.getD 5 false := by rw [getD_setB _ _ _ _ hsz, if_neg (by decide)]
            have E7 : (L.setIfInBounds 6 true).getD 7 false = L.getD 7 false := by rw [getD_setB _ _ _ _ hsz, if_neg (by decide)]
            have E8 : (L.setIfInBounds 6 true).getD 8 false = L.getD 8 false := by rw [getD_setB _ _ _ _ hsz, if_neg (by decide)]
            have E9 : (L.setIfInBounds 6 true).getD 9 false = L.getD 9 false := by rw [getD_setB _ _ _ _ hsz, if_neg (by decide)]
            have E10 : (L.setIfInBounds 6 true).getD 10 false = L.getD 10 false := by rw [getD_setB _ _ _ _ hsz, if_neg (by decide)]
            have E6 : (L.setIfInBounds 6 true).getD 6 false = true := by rw [getD_setB _ _ _ _ hsz, if_pos rfl]
            refine wpOp_run rfl rfl fun K hK => ?_
            clear hd hs hi hl
            go_simp
            refine hK _ _ ⟨_, _, _, _, _, _, _, _, _, _, _, rfl, hG, ?_, ?_, ?_, ?_, ?_, ?_, ?_, ?_, ?_, ?_, ?_, ?_, ?_⟩
            all_goals simp only [E0, E1, E2, E3, E4, E5, E6, E7, E8, E9, E10]
            · first | exact p_b | exact fun _ => trivial | (intros; trivial)
            · first | exact p_v1 | exact fun _ => trivial | (intros; trivial)
            · first | exact p_k1 | exact fun _ => trivial | (intros; trivial)
            · first | exact p_s1 | exact fun _ => trivial | (intros; trivial)
            · first | exact p_a1 | exact fun _ => trivial | (intros; trivial)
            · first | exact p_v2 | exact fun _ => trivial | (intros; trivial)
            · first | exact fun _ => rfl | exact fun _ => trivial | (intros; trivial)
            · first | exact p_ad | exact fun _ => trivial | (intros; trivial)
            · first | exact p_s2 | exact fun _ => trivial | (intros; trivial)
            · first | exact p_a2 | exact fun _ => trivial | (intros; trivial)
            · first | exact p_z | exact fun _ => trivial | (intros; trivial)
            · first | exact p_q1 | exact fun _ => trivial | (intros; trivial)
            · first | exact p_q2 | exact fun _ => trivial | (intros; trivial)
          · have hLf : L.getD 7 false = false := getD_falseV hl (by rw [hs]; decide)
            have hsz : 7 < L.size := by rw [hs]; decide
            have E0 : (L.setIfInBounds 7 true).getD 0 false = L.getD 0 false := by rw [getD_setB _ _ _ _ hsz, if_neg (by decide)]
            have E1 : (L.setIfInBounds 7 true).getD 1 false = L.getD 1 false := by rw [getD_setB _ _ _ _ hsz, if_neg (by decide)]
            have E2 : (L.setIfInBounds 7 true).getD 2 false = L.getD 2 false := by rw [getD_setB _ _ _ _ hsz, if_neg (by decide)]
            have E3 : (L.setIfInBounds 7 true).getD 3 false = L.getD 3 false := by rw [getD_setB _ _ _ _ hsz, if_neg (by decide)]
            have E4 : (L.setIfInBounds 7 true).getD 4 false = L.getD 4 false := by rw [getD_setB _ _ _ _ hsz, if_neg (by decide)]
            have E5 : (L.setIfInBounds 7 true).getD 5 false = L.getD 5 false := by rw [getD_setB _ _ _ _ hsz, if_neg (by decide)]
            have E6 : (L.setIfInBounds 7 true).getD 6 false = L.getD 6 false := by rw [getD_setB _ _ _ _ hsz, if_neg (by decide)]
            have E8 : (L.setIfInBounds 7 true).getD 8 false = L.getD 8 false := by rw [getD_setB _ _ _ _ hsz, if_neg (by decide)]
            have E9 : (L.setIfInBounds 7 true).getD 9 false = L.getD 9 false := by rw [getD_setB _ _ _ _ hsz, if_neg (by decide)]
            have E10 : (L.setIfInBounds 7 true).getD 10 false = L.getD 10 false := by rw [getD_setB _ _ _ _ hsz, if_neg (by decide)]
            have E7 : (L.setIfInBounds 7 true).getD 7 false = true := by rw [getD_setB _ _ _ _ hsz, if_pos rfl]
            have d_k2 := hd _ rfl ⟨6, .data⟩ (by simp) rfl
            obtain rfl := p_k2 d_k2
            refine wpOp_run rfl rfl fun K hK => ?_
            clear hd hs hi hl
            go_simp
            try simp only [HWR.out]
            refine hK _ _ ⟨_, _, _, _, _, _, _, _, _, _, _, rfl, hG, ?_, ?_, ?_, ?_, ?_, ?_, ?_, ?_, ?_, ?_, ?_, ?_, ?_⟩
            all_goals simp only [E0, E1, E2, E3, E4, E5, E6, E7, E8, E9, E10]
            · first | exact p_b | exact fun _ => trivial | (intros; trivial)
            · first | exact p_v1 | exact fun _ => trivial | (intros; trivial)
            · first | exact p_k1 | exact fun _ => trivial | (intros; trivial)
            · first | exact p_s1 | exact fun _ => trivial | (intros; trivial)
            · first | exact p_a1 | exact fun _ => trivial | (intros; trivial)
            · first | exact p_v2 | exact fun _ => trivial | (intros; trivial)
            · first | exact p_k2 | exact fun _ => trivial | (intros; trivial)
            · first | exact fun _ => rfl | exact fun _ => trivial | (intros; trivial)
            · first | exact p_s2 | exact fun _ => trivial | (intros; trivial)
            · first | exact p_a2 | exact fun _ => trivial | (intros; trivial)
            · first | exact p_z | exact fun _ => trivial | (intros; trivial)
            · first | exact p_q1 | exact fun _ => trivial | (intros; trivial)
            · first | exact p_q2 | exact fun _ => trivial | (intros; trivial)
          · have hLf : L.getD 8 false = false := getD_falseV hl (by rw [hs]; decide)
            have hsz : 8 < L.size := by rw [hs]; decide
            have E0 : (L.setIfInBounds 8 true).getD 0 false = L.getD 0 false := by rw [getD_setB _ _ _ _ hsz, if_neg (by decide)]
            have E1 : (L.setIfInBounds 8 true).getD 1 false = L.getD 1 false := by rw [getD_setB _ _ _ _ hsz, if_neg (by decide)]
            have E2 : (L.setIfInBounds 8 true).getD 2 false = L.getD 2 false := by rw [getD_setB _ _ _ _ hsz, if_neg (by decide)]
            have E3 : (L.setIfInBounds 8 true).getD 3 false = L.getD 3 false := by rw [getD_setB _ _ _ _ hsz, if_neg (by decide)]
            have E4 : (L.setIfInBounds 8 true).getD 4 false = L.getD 4 false := by rw [getD_setB _ _ _ _ hsz, if_neg (by decide)]
            have E5 : (L.setIfInBounds 8 true).getD 5 false = L.getD 5 false := by rw [getD_setB _ _ _ _ hsz, if_neg (by decide)]
            have E6 : (L.setIfInBounds 8 true).getD 6 false = L.getD 6 false := by rw [getD_setB _ _ _ _ hsz, if_neg (by decide)]
            have E7 : (L.setIfInBounds 8 true).getD 7 false = L.getD 7 false := by rw [getD_setB _ _ _ _ hsz, if_neg (by decide)]
            have E9 : (L.setIfInBounds 8 true).getD 9 false = L.getD 9 false := by rw [getD_setB _ _ _ _ hsz, if_neg (by decide)]
            have E10 : (L.setIfInBounds 8 true).getD 10 false = L.getD 10 false := by rw [getD_setB _ _ _ _ hsz, if_neg (by decide)]
            have E8 : (L.setIfInBounds 8 true).getD 8 false = true := by rw [getD_setB _ _ _ _ hsz, if_pos rfl]
            have d_v2 := hd _ rfl ⟨5, .data⟩ (by simp) rfl
            have d_ad := hd _ rfl ⟨7, .data⟩ (by simp) rfl
            obtain rfl := p_v2 d_v2
            obtain rfl := p_ad d_ad
            refine wpOp_run rfl rfl fun K hK => ?_
            clear hd hs hi hl
            go_simp
            refine hK _ _ ⟨_, _, _, _, _, _, _, _, _, _, _, rfl, hG, ?_, ?_, ?_, ?_, ?_, ?_, ?_, ?_, ?_, ?_, ?_, ?_, ?_⟩
            all_goals simp only [E0, E1, E2, E3, E4, E5, E6, E7, E8, E9, E10]
            · first | exact p_b | exact fun _ => trivial | (intros; trivial)
            · first | exact p_v1 | exact fun _ => trivial | (intros; trivial)
            · first | exact p_k1 | exact fun _ => trivial | (intros; trivial)
            · first | exact p_s1 | exact fun _ => trivial | (intros; trivial)
            · first | exact p_a1 | exact fun _ => trivial | (intros; trivial)
            · first | exact p_v2 | exact fun _ => trivial | (intros; trivial)
            · first | exact p_k2 | exact fun _ => trivial | (intros; trivial)
            · first | exact p_ad | exact fun _ => trivial | (intros; trivial)
            · intro _; obtain ⟨o, ho1, ho2⟩ := HC2.out; exact ⟨o, _, _, congrArg (fun z => Value.slice z _ _) ho1, (by first | exact HL2.out | (have := HL2.out; omega)), ho2⟩
            · first | exact p_a2 | exact fun _ => trivial | (intros; trivial)
            · first | exact p_z | exact fun _ => trivial | (intros; trivial)
            · first | exact p_q1 | exact fun _ => trivial | (intros; trivial)
            · first | exact p_q2 | exact fun _ => trivial | (intros; trivial)
          · have hLf : L.getD 9 false = false := getD_falseV hl (by rw [hs]; decide)
            have hsz : 9 < L.size := by rw [hs]; decide
            have E0 : (L.setIfInBounds 9 true).getD 0 false = L.getD 0 false := by rw [getD_setB _ _ _ _ hsz, if_neg (by decide)]
            have E1 : (L.setIfInBounds 9 true).getD 1 false = L.getD 1 false := by rw [getD_setB _ _ _ _ hsz, if_neg (by decide)]
            have E2 : (L.setIfInBounds 9 true).getD 2 false = L.getD 2 false := by rw [getD_setB _ _ _ _ hsz, if_neg (by decide)]
            have E3 : (L.setIfInBounds 9 true).getD 3 false = L.getD 3 false := by rw [getD_setB _ _ _ _ hsz, if_neg (by decide)]
            have E4 : (L.setIfInBounds 9 true).getD 4 false = L.getD 4 false := by rw [getD_setB _ _ _ _ hsz, if_neg (by decide)]
            have E5 : (L.setIfInBounds 9 true).getD 5 false = L.getD 5 false := by rw [getD_setB _ _ _ _ hsz, if_neg (by decide)]
            have E6 : (L.setIfInBounds 9 true).getD 6 false = L.getD 6 false := by rw [getD_setB _ _ _ _ hsz, if_neg (by decide)]
            have E7 : (L.setIfInBounds 9 true).getD 7 false = L.getD 7 false := by rw [getD_setB _ _ _ _ hsz, if_neg (by decide)]
            have E8 : (L.setIfInBounds 9 true).getD 8 false = L.getD 8 false := by rw [getD_setB _ _ _ _ hsz, if_neg (by decide)]
            have E10 : (L.setIfInBounds 9 true).getD 10 false = L.getD 10 false := by rw [getD_setB _ _ _ _ hsz, if_neg (by decide)]
            have E9 : (L.setIfInBounds 9 true).getD 9 false = true := by rw [getD_setB _ _ _ _ hsz, if_pos rfl]
            have d_a1 := hd _ rfl ⟨4, .data⟩ (by simp) rfl
            have d_s2 := hd _ rfl ⟨8, .data⟩ (by simp) rfl
            obtain ⟨of, m, c, rfl, hm, hcc⟩ := p_s2 d_s2
            have o4 := p_a1 d_a1 hLf
            refine wpOp_run rfl rfl fun K hK => ?_
            clear hd hs hi hl
            have hz := hG.size
            refine wp_appV_at (.tmp 42) (.tmp 46) rfl wc.heap.size u42 (vs.take k) rfl o4 wc.heap.size g of m c (vs.drop (k + 1)) rfl hm (hcc.gnone hG (Nat.le_refl _)) HT2.out (by have := HLS.out; simp; omega) hz ?_
            intro v' w' ho hg
            have hl0 : ∀ j, u42.ownBlock = some j → wc.heap.size ≤ j := fun j e => (o4.lt j e).1
            refine hK _ _ ⟨_, _, _, _, _, _, _, _, _, _, _, rfl, none_row2 hG hg hl0, ?_, ?_, ?_, ?_, ?_, ?_, ?_, ?_, ?_, ?_, ?_, ?_, ?_⟩
            all_goals simp only [E0, E1, E2, E3, E4, E5, E6, E7, E8, E9, E10]
            · intro _ h; rw [d_a1] at h; cases h
            · first | exact p_v1 | exact fun _ => trivial | (intros; trivial)
            · first | exact p_k1 | exact fun _ => trivial | (intros; trivial)
            · first | exact p_s1 | exact fun _ => trivial | (intros; trivial)
            · exact fun _ h => by cases h
            · first | exact p_v2 | exact fun _ => trivial | (intros; trivial)
            · first | exact p_k2 | exact fun _ => trivial | (intros; trivial)
            · first | exact p_ad | exact fun _ => trivial | (intros; trivial)
            · first | exact p_s2 | exact fun _ => trivial | (intros; trivial)
            · exact fun _ => ho
            · intro h; exact absurd (p_q2 h) (by rw [hLf]; decide)
            · first | exact fun _ => d_a1 | exact fun _ => trivial | (intros; trivial)
            · first | exact fun _ => rfl | exact fun _ => trivial | (intros; trivial)
          · have hLf : L.getD 10 false = false := getD_falseV hl (by rw [hs]; decide)
            have hsz : 10 < L.size := by rw [hs]; decide
            have E0 : (L.setIfInBounds 10 true).getD 0 false = L.getD 0 false := by rw [getD_setB _ _ _ _ hsz, if_neg (by decide)]
            have E1 : (L.setIfInBounds 10 true).getD 1 false = L.getD 1 false := by rw [getD_setB _ _ _ _ hsz, if_neg (by decide)]
            have E2 : (L.setIfInBounds 10 true).getD 2 false = L.getD 2 false := by rw [getD_setB _ _ _ _ hsz, if_neg (by decide)]
            have E3 : (L.setIfInBounds 10 true).getD 3 false = L.getD 3 false := by rw [getD_setB _ _ _ _ hsz, if_neg (by decide)]
            have E4 : (L.setIfInBounds 10 true).getD 4 false = L.getD 4 false := by rw [getD_setB _ _ _ _ hsz, if_neg (by decide)]
            have E5 : (L.setIfInBounds 10 true).getD 5 false = L.getD 5 false := by rw [getD_setB _ _ _ _ hsz, if_neg (by decide)]
            have E6 : (L.setIfInBounds 10 true).getD 6 false = L.getD 6 false := by rw [getD_setB _ _ _ _ hsz, if_neg (by decide)]
            have E7 : (L.setIfInBounds 10 true).getD 7 false = L.getD 7 false := by rw [getD_setB _ _ _ _ hsz, if_neg (by decide)]
            have E8 : (L.setIfInBounds 10 true).getD 8 false = L.getD 8 false := by rw [getD_setB _ _ _ _ hsz, if_neg (by decide)]
            have E9 : (L.setIfInBounds 10 true).getD 9 false = L.getD 9 false := by rw [getD_setB _ _ _ _ hsz, if_neg (by decide)]
            have E10 : (L.setIfInBounds 10 true).getD 10 false = true := by rw [getD_setB _ _ _ _ hsz, if_pos rfl]
            have d_a2 := hd _ rfl ⟨9, .data⟩ (by simp) rfl
            refine wpOp_run rfl rfl fun K hK => ?_
            clear hd hs hi hl
            go_simp
            refine hK _ _ ⟨_, _, _, _, _, _, _, _, _, _, _, rfl, hG, ?_, ?_, ?_, ?_, ?_, ?_, ?_, ?_, ?_, ?_, ?_, ?_, ?_⟩
            all_goals simp only [E0, E1, E2, E3, E4, E5, E6, E7, E8, E9, E10]
            · first | exact p_b | exact fun _ => trivial | (intros; trivial)
            · first | exact p_v1 | exact fun _ => trivial | (intros; trivial)
            · first | exact p_k1 | exact fun _ => trivial | (intros; trivial)
            · first | exact p_s1 | exact fun _ => trivial | (intros; trivial)
            · first | exact p_a1 | exact fun _ => trivial | (intros; trivial)
            · first | exact p_v2 | exact fun _ => trivial | (intros; trivial)
            · first | exact p_k2 | exact fun _ => trivial | (intros; trivial)
            · first | exact p_ad | exact fun _ => trivial | (intros; trivial)
            · first | exact p_s2 | exact fun _ => trivial | (intros; trivial)
            · first | exact p_a2 | exact fun _ => trivial | (intros; trivial)
            · first | exact fun _ => rfl | exact fun _ => trivial | (intros; trivial)
            · first | exact p_q1 | exact fun _ => trivial | (intros; trivial)
            · first | exact fun _ => d_a2 | exact fun _ => trivial | (intros; trivial)
        · rintro L act wd ⟨u9, u38, u39, u40, u41, u42, u43, u44, u45, u46, u47, rfl, hG, p_b, p_v1, p_k1, p_s1, p_a1, p_v2, p_k2, p_ad, p_s2, p_a2, p_z, p_q1, p_q2⟩ hall
          have hfin := p_a2 (hall 9 (by decide))
          obtain rfl := p_z (hall 10 (by decide))
          have HF : Hid (OwnV wd wc.heap.size u9 (vs.take k ++ vs.drop (k + 1)) ∧ wc.grownBy wd none) := ⟨hfin, hG⟩
          clear hG hall hfin p_b p_v1 p_k1 p_s1 p_a1 p_v2 p_k2 p_ad p_s2 p_a2 p_q1 p_q2
          have HOA := Lib.hid HF.out.1
          have HGA := Lib.hid HF.out.2
          have HB4 : Hid (Below w.heap.size w wd) := HB1.out.grown HGA.out HB1.out.size (fun _ h => by cases h)
          obtain ⟨g9, c9, rfl, _, _⟩ := HOA.out.slice (n := 11) (by rw [List.length_append, HL1.out, HL2.out]; omega) (by omega)
          obtain ⟨i1, ji, jz0, jz1, jz2⟩ := info_parts infoRow
          have JI := Lib.hid ji
          have JZ0 := Lib.hid jz0
          have JZ1 := Lib.hid jz1
          have JZ2 := Lib.hid jz2
          have HOwn : Hid ((wd.alloc (.cells #[] 26)).ownsRow wd.heap.size 26 1 (.slice (some ⟨wd.heap.size, 0, none⟩) 0 0) 0 []) := World.ownsRow_lit wd #[] 0 (Nat.le_refl _) (by unfold maxLen; omega) rfl
          have HNW : Hid (∀ j u, vs[j]? = some u → (wd.alloc (.cells #[] 26)).cell? ((⟨g, off, none⟩ : Addr).add j) = some u) := ((HCK.out.gnone HGA.out (Nat.le_refl _)).gnone (World.grownBy_alloc wd _ none) HGA.out.size).news
          clear HF HOA HL1 HL2 HC2 HT1 HT2 ji jz0 jz1 jz2
          have hk12 : (k : Int) < 12 := by omega
          go_wp2_with (at_builtin; refine wpList_append_own _ rfl _ _ 23 rfl wd.heap.size 26 i1 (.slice none 0 0) 1 24 Try.underlying23 JI.out JZ0.out JZ1.out JZ2.out rfl (by decide) _ _ _ rfl HOwn.out ⟨g, off, none⟩ 12 c1 vs rfl (by rw [HVL.out]) HNW.out ?c2 ?c3 ?c4 ?c5 ?_)
          case c2 => exact H1C.out
          case c3 => unfold maxLen; omega
          intro r we hr hgr _
          have HOY : Hid (OwnV we wd.heap.size r vs) := by show OwnV _ _ _ _; unfold OwnV; rw [HVL.out]; exact hr
          have HGE : Hid (wd.grownBy we none) := none_row2 (World.grownBy_alloc wd _ none) hgr (fun j e => by have := Option.some.inj (show some wd.heap.size = some j from e); omega)
          clear hr hgr
          obtain ⟨gy, cy, rfl, hgy1, hgy2⟩ := HOY.out.slice HVL.out (by omega)
          have hoy : we.ownsRow wd.heap.size 26 1 (.slice (some ⟨gy, 0, none⟩) 12 cy) 12 vs := by have := HOY.out; unfold OwnV at this; rw [HVL.out] at this; exact this
          have hga := World.grownBy_alloc we (.cells #[.int .i64 1, .int .i64 2, .int .i64 3, .int .i64 10000] 3) none
          have hof := World.ownsRow.alloc hoy (.cells #[.int .i64 1, .int .i64 2, .int .i64 3, .int .i64 10000] 3)
          have hcell := hof.cellAt k (by omega)
          rw [getD_some vs k nilV (by rw [HVL.out]; omega)] at hcell
          have hfr := hof.frozenAt k
          have hst := hof.stored k (.slice (some ⟨we.heap.size, 0, none⟩) 4 4)
          obtain ⟨wg, hwg⟩ : ∃ x, x = (we.alloc (.cells #[.int .i64 1, .int .i64 2, .int .i64 3, .int .i64 10000] 3)).setCell ⟨gy, k, none⟩ (.slice (some ⟨we.heap.size, 0, none⟩) 4 4) := ⟨_, rfl⟩
          rw [← hwg] at hst
          have HGG : Hid (wd.grownBy wg none) := none_row2 (none_trans2 HGE.out hga) hst.2 (fun j e => by have := Option.some.inj (show some gy = some j from e); omega)
          have HGW : Hid (wc.grownBy wg none) := none_trans2 HGA.out HGG.out
          have HOG : Hid (OwnV wg wd.heap.size (.slice (some ⟨gy, 0, none⟩) 12 cy) (vs.set k (.slice (some ⟨we.heap.size, 0, none⟩) 4 4))) := by show OwnV _ _ _ _; unfold OwnV; rw [List.length_set, HVL.out]; exact hst.1
          have hsz1 : we.heap.size < wg.heap.size := by have := hst.2.size; simp at this; omega
          have HMY : Hid (Mem wg wg.heap.size (some ⟨gy, 0, none⟩) (ls.set k [1, 2, 3, 10000])) := by
            refine mem_of_own HOG.out (by omega) HVS.out (fun i hi => ?_) ⟨some ⟨we.heap.size, 0, none⟩, 4, rfl, Nat.le_refl _, .inr ⟨we.heap.size, 0, rfl, hsz1, fun i hi => ?_⟩⟩ hkl
            · obtain ⟨ra, rc, h1, h2, h3⟩ := HRW.out i hi
              exact ⟨ra, rc, h1, h2, (h3.kept (fun j hj => HGW.out.block j hj (by simp))).up HGW.out.size⟩
            · have hi' : i < 4 := hi
              rw [Nat.zero_add]
              have hne : (⟨we.heap.size, i, none⟩ : Addr).block ≠ gy := by show we.heap.size ≠ gy; omega
              have : i = 0 ∨ i = 1 ∨ i = 2 ∨ i = 3 := by omega
              rcases this with rfl | rfl | rfl | rfl <;> exact hst.2.cell (cell_new _ _ _ _ _ rfl) (fun e => hne (Option.some.inj e))
          have HSY := Lib.hid (small_put HV.out k [1, 2, 3, 10000] rfl)
          have HCON : Hid (Calls Try.prog 10 #[.slice (some ⟨gy, 0, none⟩) 12 cy] wg fun e w' => e = .returned (.bool false) ∧ wg = w') := by
            have hcon := implMemoryValid_c wg.heap.size (some ⟨gy, 0, none⟩) cy (ls.set k [1, 2, 3, 10000]) wg HMY.out HSY.out
            rw [List.length_set, hl12, mv_far hkl] at hcon
            exact hcon
          have HB5 : Hid (Below w.heap.size w wg) := HB4.out.grown HGG.out HB4.out.size (fun _ h => by cases h)
          have HWG := Lib.hid hwg
          clear hst hof hoy hga hwg hsz1 hgy1 hgy2
          go_wp2_with fail
          rw [← HWG.out]
          refine (implMemoryValid_short _ _ _).mono ?_
          rintro e w' ⟨rfl, rfl⟩
          go_wp2_with fail
          refine HCON.out.mono ?_
          rintro e w' ⟨rfl, rfl⟩
          go_wp2_with fail
          go_ret
          exact ⟨rfl, HB5.out⟩
end Go.Proofs.Ytjmlfjpocjmnpaa
