/-
  Slices of strings that came in, or that the call itself made; the walks on them. No conditions.
-/
import Derived.Test.YteklmebacmbdiaaDoorRight
import Derived.OwnWalk
import Derived.SliceStrings
import Derived.Laws.Cover1
import Derived.Deep.QuietTactic
import Derived.BigQuiet
import Derived.IntWalk
namespace Go.Proofs.YteklmebacmbdiaaDoor
open Go.RowKit

/-- A slice of strings reads as a list. -/
def Strs (w : World) (a : Option Addr) (ss : List ByteArray) : Prop :=
  ss = [] ∨ ∃ b off, a = some ⟨b, off, none⟩ ∧ ∀ i, i < ss.length → w.cell? ⟨b, off + i, none⟩ = some (.string (ss.getD i ByteArray.empty))
def Texts (w : World) (a : Option Addr) (len cap : Nat) (ss : List ByteArray) : Prop :=
  ss.length = len ∧ len ≤ cap ∧ cap ≤ maxLen ∧ (∀ i, (ss.getD i ByteArray.empty).size ≤ maxLen) ∧ Strs w a ss
theorem size_getD {ss : List ByteArray} {m : Nat} (h : ∀ s ∈ ss, s.size ≤ m) (i : Nat) : (ss.getD i ByteArray.empty).size ≤ m := by
  rcases Nat.lt_or_ge i ss.length with hi | hi
  · rw [List.getD_eq_getElem?_getD, List.getElem?_eq_getElem hi]; exact h _ (List.getElem_mem hi)
  · rw [List.getD_eq_getElem?_getD, List.getElem?_eq_none hi]; exact Nat.zero_le _
theorem texts_of {H : Type} {enc : TypeId × Value → H} {w : World} {held : Bool} {fuel : Nat} {a : Option Addr} {len cap : Nat} {x : DataW H × List MemPlace}
    (h : DataW.trod enc Tryd.prog w 0 (fun _ => true) held fuel 24 (Value.cells (.slice a len cap)).toList = some x) : ∃ ss, Texts w a len cap ss := by
  rcases Go.ChangeShapes.open_strings Tryd.underlying24 Tryd.underlying9 (by kernel_rfl) h with ⟨hcs, _⟩ | ⟨a', len', cap', ss, hcs, hb, hl, hm, hn, hx, hcell, hsz⟩
  · simp [Value.cells] at hcs
    obtain ⟨rfl, rfl, rfl⟩ := hcs
    exact ⟨[], rfl, Nat.le_refl _, Nat.zero_le _, size_getD (by simp), .inl rfl⟩
  · simp [Value.cells] at hcs
    obtain ⟨rfl, rfl, rfl⟩ := hcs
    simp only [if_true] at hn
    have hlt : (ss.take len).length = len := by rw [List.length_take]; omega
    have hg : ∀ i, i < len → (ss.take len).getD i ByteArray.empty = ss.getD i ByteArray.empty := fun i hi => by
      rw [List.getD_eq_getElem?_getD, List.getD_eq_getElem?_getD, List.getElem?_take, if_pos hi]
    refine ⟨ss.take len, hlt, hl, hm, size_getD (fun s hs => hsz s (List.mem_of_mem_take hs)), ?_⟩
    rcases Nat.eq_zero_or_pos len with h0 | h0
    · subst h0; exact .inl rfl
    · have hc0 := hcell 0 (by omega)
      obtain ⟨b, off, spot⟩ := a'
      have hspot : spot = none := by simpa [Addr.add] using World.cell?_spot hc0
      subst hspot
      refine .inr ⟨b, off, rfl, fun i hi => ?_⟩
      rw [hlt] at hi
      rw [hg i hi]
      have := hcell i (by omega)
      rw [Addr.add_lit] at this
      exact this
theorem below_of_grown {w w' : World} (h : w.grownBy w' none) : Below w.heap.size w w' := (Below.refl _ _).grown h (Nat.le_refl _) (fun _ h => by cases h)
theorem Strs.below {w w' : World} {a : Option Addr} {ss : List ByteArray} (h : Strs w a ss) (hB : Below w.heap.size w w') : Strs w' a ss := by
  rcases h with h | ⟨b, off, rfl, hc⟩
  · exact .inl h
  · exact .inr ⟨b, off, rfl, fun i hi => (hB.cell (p := ⟨b, off + i, none⟩) (World.block_lt_of_cell? w _ (hc i hi))).trans (hc i hi)⟩
theorem Strs.drewN {w : World} {a : Option Addr} {ss : List ByteArray} (h : Strs w a ss) (n : Nat) : Strs (w.drewN n) a ss := h

theorem infoStr : (Tryd.prog.info? 9).map (fun i => (i.zero, i.size, i.bytes)) = some (some (.string ByteArray.empty), 1, 16) := by kernel_rfl

/-- A list of strings that the call itself made. -/
def OwnS (w : World) (base : Nat) (v : Value) (ss : List ByteArray) : Prop := w.ownsRow base 9 1 v ss.length (ss.map Value.string)
theorem OwnS.val {w : World} {base : Nat} {v : Value} {ss : List ByteArray} (h : OwnS w base v ss) : ∃ a cap, v = .slice a ss.length cap ∧ Strs w a ss ∧ ss.length ≤ maxLen := by
  rcases h.2 with ⟨rfl, h0⟩ | ⟨g, cap, cur, rfl, hb, hg, hn, hm, hs, ht⟩
  · refine ⟨none, 0, by rw [h0], .inl (List.length_eq_zero_iff.1 h0), by rw [h0]; exact Nat.zero_le _⟩
  · refine ⟨some ⟨g, 0, none⟩, cap, rfl, ?_, Nat.le_trans hn hm⟩
    refine .inr ⟨g, 0, rfl, fun i hi => ?_⟩
    have hown : w.ownsRow base 9 1 (.slice (some ⟨g, 0, none⟩) ss.length cap) ss.length (ss.map Value.string) := h
    have := hown.cellAt i (by omega)
    rw [Nat.zero_add, this, List.getElem?_map, List.getElem?_eq_getElem hi, List.getD_eq_getElem?_getD, List.getElem?_eq_getElem hi]
    rfl
theorem made_strs (n : Nat) : (madeCells #[Value.string ByteArray.empty] n).toList = (List.replicate n ByteArray.empty).map Value.string := by
  apply List.ext_getElem
  · simp [size_madeCells]
  · intro i h1 h2
    simp [madeCells, Nat.mod_one]
theorem getD_setS (xs : List ByteArray) (k j : Nat) (x : ByteArray) (hk : k < xs.length) : (xs.set k x).getD j ByteArray.empty = if j = k then x else xs.getD j ByteArray.empty := by
  rw [List.getD_eq_getElem?_getD, List.getD_eq_getElem?_getD, List.getElem?_set]
  by_cases e : k = j
  · subst e; simp [hk]
  · have : ¬ j = k := fun h => e h.symm
    simp [e, this]
theorem eq_takeS {la lb : List ByteArray} (hl : la.length = lb.length) (h : ∀ j, j < la.length → la.getD j ByteArray.empty = lb.getD j ByteArray.empty) : la = lb := by
  apply List.ext_getElem hl
  intro j h1 h2
  have := h j h1
  rw [List.getD_eq_getElem?_getD, List.getD_eq_getElem?_getD, List.getElem?_eq_getElem h1, List.getElem?_eq_getElem h2] at this
  exact this
/-- A list of strings is not too large. -/
def SmallS (ss : List ByteArray) : Prop := ss.length ≤ 1048576 ∧ ∀ i, (ss.getD i ByteArray.empty).size ≤ 1048576
def SzSPost (ss : List ByteArray) (w : World) (e : Ending) (w' : World) : Prop := ∃ r : Int, e = .returned (.int .i64 r) ∧ -1 ≤ r ∧ (0 ≤ r → SmallS ss) ∧ w = w'
set_option maxHeartbeats 400000 in
theorem szStringS_c (a : Option Addr) (cap : Nat) (ss : List ByteArray) (w : World) (h : Strs w a ss) (hm : ss.length ≤ maxLen) (hr : ∀ i, (ss.getD i ByteArray.empty).size ≤ maxLen) :
    Calls Tryd.prog 12 #[.slice a ss.length cap, .int .i64 1048576] w (SzSPost ss w) := by
  have H := Lib.hid h
  clear h
  have HR := Lib.hid hr
  clear hr
  unfold maxLen at hm
  by_cases hl : 1048576 - (ss.length : Int) < 0
  · go_enter Tryd.func12, Tryd.ntmps12
    go_wp2
    go_ret
    exact ⟨-1, rfl, by omega, fun h => absurd h (by omega), rfl⟩
  · have hl' : ss.length ≤ 1048576 := by omega
    go_enter Tryd.func12, Tryd.ntmps12
    go_wp2
    go_loop [1, 5] (fun n i => ∃ (k : Nat) (q : Int), k ≤ ss.length ∧ i = .int .i64 k ∧ n = .int .i64 q ∧ 0 ≤ q ∧ q ≤ 1048576 ∧ Hid (∀ j, j < k → (ss.getD j ByteArray.empty).size ≤ 1048576)) (fun _ i => ss.length - (intOf i).toNat)
    case atStart => exact ⟨0, _, Nat.zero_le _, rfl, rfl, by omega, by omega, fun j hj => absurd hj (Nat.not_lt_zero _)⟩
    case round =>
      obtain ⟨k, q, hk, rfl, rfl, hq0, hq1, hE⟩ := hrel
      by_cases hlt : k < ss.length
      · rcases H.out with h0 | ⟨b, off, rfl, hc⟩
        · rw [h0] at hlt; simp at hlt
        have hc1 := hc k hlt
        clear hc
        have hsz := HR.out k
        unfold maxLen at hsz
        obtain ⟨s, hs⟩ : ∃ s, s = ss.getD k ByteArray.empty := ⟨_, rfl⟩
        have HS : Hid (s = ss.getD k ByteArray.empty) := hs
        rw [← hs] at hc1 hsz
        clear hs
        by_cases hc : q - (s.size : Int) < 0
        · go_wp2_with fail
          go_ret
          exact ⟨-1, rfl, by omega, fun h => absurd h (by omega), rfl⟩
        · go_wp2_with fail
          go_round
          case rel =>
            refine ⟨k + 1, q - s.size, by omega, by go_num, rfl, by omega, by omega, fun j hj => ?_⟩
            by_cases hjk : j = k
            · subst hjk; rw [← HS.out]; omega
            · exact hE.out j (by omega)
          case measure => simp [intOf]; omega
      · have hks : k = ss.length := by omega
        go_wp2_with fail
        go_ret
        refine ⟨q, rfl, by omega, fun _ => ⟨hl', fun i => ?_⟩, rfl⟩
        rcases Nat.lt_or_ge i ss.length with hi | hi
        · exact hE.out i (by omega)
        · rw [List.getD_eq_getElem?_getD, List.getElem?_eq_none hi]; exact Nat.zero_le _
set_option maxHeartbeats 400000 in
theorem toStringS_c (a : Option Addr) (cap : Nat) (l : List ByteArray) (w : World) (h : Strs w a l) (hm : l.length ≤ 1048576) :
    Calls Tryd.prog 14 #[.slice a l.length cap] w fun e w' => ∃ v, e = .returned v ∧ OwnS w' w.heap.size v l ∧ w.grownBy w' none := by
  have H := Lib.hid h
  clear h
  obtain ⟨i0, hi, hz0, hz1, hz2⟩ := info_parts infoStr
  obtain ⟨n, hn⟩ : ∃ n, n = l.length := ⟨_, rfl⟩
  have HN : Hid (l.length = n) := hn.symm
  rw [← hn]
  rw [← hn] at hm
  clear hn
  go_enter Tryd.func14, Tryd.ntmps14
  go_wp2_with (at_make; refine wpList_make_full _ rfl _ _ 24 rfl w.heap.size 9 i0 (.string ByteArray.empty) 1 Tryd.underlying24 hi hz0 hz1 .i64 .i64 n n n rfl rfl rfl rfl ?b2 ?b3 (Nat.le_refl _) ?_)
  case b2 => rw [hz2]; omega
  case b3 => unfold maxLen; omega
  intro w1 hown hg1
  rw [made_strs] at hown
  have HO : Hid (∃ xs : List ByteArray, xs.length = n ∧ w1.ownsRow w.heap.size 9 1 (.slice (some ⟨w.heap.size, 0, none⟩) n n) n (xs.map Value.string)) := ⟨List.replicate n ByteArray.empty, by simp, hown⟩
  clear hown hi hz0 hz1 hz2
  go_wp2_with fail
  go_loopw [4] (fun i wr => ∃ k : Nat, k ≤ n ∧ i = .int .i64 k ∧ w.grownBy wr none ∧ Hid (∃ xs : List ByteArray, xs.length = n ∧ (∀ j, j < k → xs.getD j ByteArray.empty = l.getD j ByteArray.empty) ∧ wr.ownsRow w.heap.size 9 1 (.slice (some ⟨w.heap.size, 0, none⟩) n n) n (xs.map Value.string))) (fun i _ => n - (intOf i).toNat)
  case atStart =>
    obtain ⟨xs, h1, h2⟩ := HO.out
    exact ⟨0, Nat.zero_le _, rfl, hg1, xs, h1, fun j hj => absurd hj (Nat.not_lt_zero _), h2⟩
  case round =>
    obtain ⟨k, hk, rfl, hg, hX⟩ := hrel
    by_cases hlt : k < n
    · rcases H.out with h0 | ⟨b, off, rfl, hc⟩
      · have := HN.out; rw [h0] at this; simp at this; omega
      have hcw := hc k (by rw [HN.out]; exact hlt)
      have hc1 := hg.cell hcw (by simp)
      obtain ⟨xs, x1, x2, x3⟩ := hX.out
      have hf := x3.frozenAt k
      obtain ⟨y, hcl⟩ : ∃ y : ByteArray, wr.cell? ⟨w.heap.size, k, none⟩ = some (.string y) := by
        have hcl := x3.cellAt k (by omega)
        rw [List.getElem?_map, List.getElem?_eq_getElem (by omega), Option.map_some] at hcl
        exact ⟨_, hcl⟩
      have hs := x3.stored k (.string (l.getD k ByteArray.empty))
      have HS : Hid (w.grownBy (wr.setCell ⟨w.heap.size, k, none⟩ (.string (l.getD k ByteArray.empty))) none ∧ ∃ xs : List ByteArray, xs.length = n ∧ (∀ j, j < k + 1 → xs.getD j ByteArray.empty = l.getD j ByteArray.empty) ∧ (wr.setCell ⟨w.heap.size, k, none⟩ (.string (l.getD k ByteArray.empty))).ownsRow w.heap.size 9 1 (.slice (some ⟨w.heap.size, 0, none⟩) n n) n (xs.map Value.string)) := by
        refine ⟨⟨hs.2.os.trans hg.os, hs.2.tape.trans hg.tape, hs.2.output.trans hg.output, Nat.le_trans hg.size hs.2.size, fun j hj hne => (hs.2.block j (by have := hg.size; omega) (fun e => by have := Option.some.inj e; omega)).trans (hg.block j hj hne)⟩, xs.set k (l.getD k ByteArray.empty), by simpa using x1, fun j hj => ?_, ?_⟩
        · rw [getD_setS _ _ _ _ (by omega)]
          split
          · rename_i e; rw [e]
          · exact x2 j (by omega)
        · rw [List.map_set]; exact hs.1
      generalize l.getD k ByteArray.empty = f at *
      clear hc hcw hs x1 x2 x3 hX hg
      go_wp2_with fail
      go_roundw
      case rel => exact ⟨k + 1, by omega, by go_num, HS.out.1, HS.out.2⟩
      case measure => simp [intOf]; omega
    · have : k = n := by omega
      subst this
      go_wp2_with fail
      go_ret
      obtain ⟨xs, x1, x2, x3⟩ := hX.out
      have : xs = l := eq_takeS (by rw [x1, HN.out]) (fun j hj => x2 j (by omega))
      subst this
      refine ⟨_, rfl, ?_, hg⟩
      unfold OwnS
      rw [x1]
      exact x3
set_option maxHeartbeats 400000 in
theorem eqStringS_c (a a' : Option Addr) (cap cap' : Nat) (l : List ByteArray) (w : World) (h : Strs w a l) (h' : Strs w a' l) (hm : l.length ≤ 1048576) :
    Calls Tryd.prog 16 #[.slice a l.length cap, .slice a' l.length cap'] w fun e w' => e = .returned (.bool true) ∧ ∃ n, w' = w.drewN n := by
  have H := Lib.hid h
  have H' := Lib.hid h'
  clear h h'
  obtain ⟨n, hn⟩ : ∃ n, n = l.length := ⟨_, rfl⟩
  have hE : Hid (l.length = n) := hn.symm
  rw [← hn]
  rw [← hn] at hm
  clear hn
  go_enter Tryd.func16, Tryd.ntmps16
  go_wp2
  go_loopw [5] (fun i wr => ∃ k q : Nat, k ≤ n ∧ i = .int .i64 k ∧ wr = w.drewN q) (fun i _ => n - (intOf i).toNat)
  case atStart => exact ⟨0, 0, Nat.zero_le _, rfl, rfl⟩
  case round =>
    obtain ⟨k, q, hk, rfl, rfl⟩ := hrel
    by_cases hlt : k < n
    · rcases H.out with h0 | ⟨b, off, rfl, hc⟩
      · have := hE.out; rw [h0] at this; simp at this; omega
      rcases H'.out with h0 | ⟨b', off', rfl, hc'⟩
      · have := hE.out; rw [h0] at this; simp at this; omega
      have hc1 := hc k (by rw [hE.out]; exact hlt)
      have hc2 := hc' k (by rw [hE.out]; exact hlt)
      clear hc hc'
      obtain ⟨x, hx⟩ : ∃ x, x = l.getD k ByteArray.empty := ⟨_, rfl⟩
      rw [← hx] at hc1 hc2
      clear hx
      have hne : (x.toList == x.toList) = true := by simp
      go_wp2_with fail
      go_quiet (fail)
      go_wp2
      go_roundw
      case rel => exact ⟨k + 1, q + nq, by omega, by go_num, by simp⟩
      case measure => simp [intOf]; omega
    · have : k = n := by omega
      subst this
      go_wp2
      go_ret
      exact ⟨rfl, q, rfl⟩
/-- The k-th of some rights is a right, above the one before it. -/
def rokB (ss : List ByteArray) (k : Nat) : Bool := rvB (ss.getD k ByteArray.empty) && (decide (k = 0) || Op.bytesLess (ss.getD (k - 1) ByteArray.empty).toList (ss.getD k ByteArray.empty).toList)
def rsB (ss : List ByteArray) : Bool := (List.range ss.length).all (rokB ss) && decide (ss.length ≤ 6)
theorem rs_bad {ss : List ByteArray} {k : Nat} (hk : k < ss.length) (h : rokB ss k = false) : rsB ss = false := by
  unfold rsB
  have : (List.range ss.length).all (rokB ss) = false := by
    rw [List.all_eq_false]
    exact ⟨k, List.mem_range.2 hk, by rw [h]; decide⟩
  rw [this, Bool.false_and]
theorem rs_all {ss : List ByteArray} (h : ∀ j, j < ss.length → rokB ss j = true) : rsB ss = decide (ss.length ≤ 6) := by
  unfold rsB
  have : (List.range ss.length).all (rokB ss) = true := by
    rw [List.all_eq_true]
    exact fun j hj => h j (List.mem_range.1 hj)
  rw [this, Bool.true_and]
theorem rok_a {ss : List ByteArray} {k : Nat} (h : rvB (ss.getD k ByteArray.empty) = false) : rokB ss k = false := by unfold rokB; rw [h, Bool.false_and]
theorem rok_b {ss : List ByteArray} {k : Nat} (h0 : k = 0) (h : rvB (ss.getD k ByteArray.empty) = true) : rokB ss k = true := by unfold rokB; rw [h, decide_eq_true h0]; rfl
theorem rok_c {ss : List ByteArray} {k : Nat} (h0 : ¬ k = 0) (h : rvB (ss.getD k ByteArray.empty) = true) : rokB ss k = Op.bytesLess (ss.getD (k - 1) ByteArray.empty).toList (ss.getD k ByteArray.empty).toList := by
  unfold rokB; rw [h, decide_eq_false h0]; rfl
theorem upto_step {p : Nat → Prop} {k : Nat} (h : ∀ j, j < k → p j) (hk : p k) : ∀ j, j < k + 1 → p j := fun j hj => by
  by_cases e : j = k
  · subst e; exact hk
  · exact h j (by omega)
set_option maxHeartbeats 1000000 in
theorem specRightsValid_c (a : Option Addr) (cap : Nat) (ss : List ByteArray) (w : World) (h : Strs w a ss) (hm : SmallS ss) :
    Calls Tryd.prog 13 #[.slice a ss.length cap] w fun e w' => e = .returned (.bool (rsB ss)) ∧ ∃ n, w' = w.drewN n := by
  have H := Lib.hid h
  have HM := Lib.hid hm
  have hlen := hm.1
  clear h hm
  obtain ⟨n, hn⟩ : ∃ n, n = ss.length := ⟨_, rfl⟩
  have HN : Hid (ss.length = n) := hn.symm
  rw [← hn] at hlen ⊢
  clear hn
  go_enter Tryd.func13, Tryd.ntmps13
  go_wp2
  go_loopw [3] (fun i wr => ∃ k : Nat, k ≤ n ∧ i = .int .i64 k ∧ Hid (∃ q, wr = w.drewN q) ∧ Hid (∀ j, j < k → rokB ss j = true)) (fun i _ => n - (intOf i).toNat)
  case atStart => exact ⟨0, Nat.zero_le _, rfl, ⟨0, rfl⟩, fun j hj => absurd hj (Nat.not_lt_zero _)⟩
  case round =>
    obtain ⟨k, hk, rfl, HQ, HI⟩ := hrel
    by_cases hlt : k < n
    · have HS : Hid (Strs wr a ss) := by obtain ⟨q, hq⟩ := HQ.out; show Strs wr a ss; rw [hq]; exact H.out.drewN q
      rcases HS.out with h0 | ⟨b, off, rfl, hc⟩
      · have := HN.out; rw [h0] at this; simp at this; omega
      have hc1 := hc k (by rw [HN.out]; exact hlt)
      have hss := HM.out.2 k
      have HA := Lib.hid (fun h => rs_bad (ss := ss) (k := k) (by rw [HN.out]; exact hlt) h)
      rcases hv : rvB (ss.getD k ByteArray.empty)
      · have HV := Lib.hid hv
        have HZ : Hid (rsB ss = false) := HA.out (rok_a hv)
        generalize ss.getD k ByteArray.empty = s at *
        clear hc
        go_wp2_with fail
        go_quiet ((go_at_call 8; exact Calls.quiet_of_same ((specRightValid_c s _ hss).mono fun _ _ h => ⟨h.1.trans (by rw [HV.out]), h.2.symm⟩)))
        go_wp2_with fail
        go_ret
        exact ⟨by rw [HZ.out]; rfl, by obtain ⟨q, hq⟩ := HQ.out; exact ⟨q + nq, by rw [hq, World.drewN_drewN]⟩⟩
      · have HV := Lib.hid hv
        by_cases hk0 : k = 0
        · have hz : decide ((0 : Int) < (k : Int)) = false := by simp; omega
          have hzn : decide (0 < k) = false := by simp; omega
          have HZ := Lib.hid (upto_step HI.out (rok_b hk0 hv))
          generalize ss.getD k ByteArray.empty = s at *
          clear hc hk0
          go_wp2_with fail
          go_quiet ((go_at_call 8; exact Calls.quiet_of_same ((specRightValid_c s _ hss).mono fun _ _ h => ⟨h.1.trans (by rw [HV.out]), h.2.symm⟩)))
          go_wp2_with fail
          go_roundw
          case rel => exact ⟨k + 1, by omega, by go_num, by obtain ⟨q, hq⟩ := HQ.out; exact ⟨q + nq, by rw [hq, World.drewN_drewN]⟩, HZ⟩
          case measure => simp [intOf]; omega
        · have hz : decide ((0 : Int) < (k : Int)) = true := by simp; omega
          have hzn : decide (0 < k) = true := by simp; omega
          have hcp := hc (k - 1) (by rw [HN.out]; omega)
          have hk1 : (1 : Int) ≤ (k : Int) := by omega
          have HC := Lib.hid (rok_c hk0 hv)
          rcases hl : Op.bytesLess (ss.getD (k - 1) ByteArray.empty).toList (ss.getD k ByteArray.empty).toList
          · have HZ : Hid (rsB ss = false) := HA.out (HC.out.trans hl)
            generalize ss.getD k ByteArray.empty = s at *
            generalize ss.getD (k - 1) ByteArray.empty = p at *
            clear hc hk0
            go_wp2_with fail
            go_quiet ((go_at_call 8; exact Calls.quiet_of_same ((specRightValid_c s _ hss).mono fun _ _ h => ⟨h.1.trans (by rw [HV.out]), h.2.symm⟩)))
            go_wp2_with fail
            go_ret
            exact ⟨by rw [HZ.out]; rfl, by obtain ⟨q, hq⟩ := HQ.out; exact ⟨q + nq, by rw [hq, World.drewN_drewN]⟩⟩
          · have HZ := Lib.hid (upto_step HI.out (HC.out.trans hl))
            generalize ss.getD k ByteArray.empty = s at *
            generalize ss.getD (k - 1) ByteArray.empty = p at *
            clear hc hk0
            go_wp2_with fail
            go_quiet ((go_at_call 8; exact Calls.quiet_of_same ((specRightValid_c s _ hss).mono fun _ _ h => ⟨h.1.trans (by rw [HV.out]), h.2.symm⟩)))
            go_wp2_with fail
            go_roundw
            case rel => exact ⟨k + 1, by omega, by go_num, by obtain ⟨q, hq⟩ := HQ.out; exact ⟨q + nq, by rw [hq, World.drewN_drewN]⟩, HZ⟩
            case measure => simp [intOf]; omega
    · have hks : k = n := by omega
      have HZ : Hid (rsB ss = decide ((n : Int) ≤ 6)) := by
        show _ = _
        rw [rs_all (fun j hj => HI.out j (by rw [HN.out] at hj; omega)), HN.out]
        simp; omega
      go_wp2_with fail
      go_ret
      exact ⟨by rw [HZ.out]; rfl, HQ.out⟩
set_option maxHeartbeats 1000000 in
theorem implRightsValid_c (a : Option Addr) (cap : Nat) (ss : List ByteArray) (w : World) (h : Strs w a ss) (hm : SmallS ss) :
    Calls Tryd.prog 15 #[.slice a ss.length cap] w fun e w' => e = .returned (.bool (rsB ss)) ∧ Below w.heap.size w w' := by
  have H := Lib.hid h
  have HM := Lib.hid hm
  have hlen := hm.1
  clear h hm
  obtain ⟨n, hn⟩ : ∃ n, n = ss.length := ⟨_, rfl⟩
  have HN : Hid (ss.length = n) := hn.symm
  rw [← hn] at hlen ⊢
  clear hn
  go_enter Tryd.func15, Tryd.ntmps15
  go_wp2_with fail
  go_loopw [3, 4, 7] (fun _ _ i wr => ∃ k : Nat, k ≤ n ∧ i = .int .i64 k ∧ Hid (Below w.heap.size w wr) ∧ Hid (∀ j, j < k → rokB ss j = true)) (fun _ _ i _ => n - (intOf i).toNat)
  case atStart => exact ⟨0, Nat.zero_le _, rfl, Below.refl _ _, fun j hj => absurd hj (Nat.not_lt_zero _)⟩
  case round =>
    obtain ⟨k, hk, rfl, HB, HI⟩ := hrel
    by_cases hlt : k < n
    · have HS : Hid (Strs wr a ss) := H.out.below HB.out
      rcases HS.out with h0 | ⟨b, off, rfl, hc⟩
      · have := HN.out; rw [h0] at this; simp at this; omega
      have hc1 := hc k (by rw [HN.out]; exact hlt)
      have hss := HM.out.2 k
      have HA := Lib.hid (fun h => rs_bad (ss := ss) (k := k) (by rw [HN.out]; exact hlt) h)
      rcases hv : rvB (ss.getD k ByteArray.empty)
      · have HZ : Hid (rsB ss = false) := HA.out (rok_a hv)
        have HV := Lib.hid hv
        clear hv
        generalize ss.getD k ByteArray.empty = s at *
        clear hc
        go_wp2_with fail
        refine (implRightValid_c s _ (by omega)).mono ?_
        rintro e w1 ⟨rfl, hb⟩
        rw [HV.out]
        have HB1 := Lib.hid (HB.out.trans (hb.mono HB.out.size))
        clear hb
        go_wp2_with fail
        go_ret
        exact ⟨by rw [HZ.out]; rfl, HB1.out⟩
      · have HV := Lib.hid hv
        by_cases hk0 : k = 0
        · have hz : decide ((0 : Int) < (k : Int)) = false := by simp; omega
          have hzn : decide (0 < k) = false := by simp; omega
          have HZ := Lib.hid (upto_step HI.out (rok_b hk0 hv))
          clear hv
          generalize ss.getD k ByteArray.empty = s at *
          clear hc hk0
          go_wp2_with fail
          refine (implRightValid_c s _ (by omega)).mono ?_
          rintro e w1 ⟨rfl, hb⟩
          rw [HV.out]
          have HB1 := Lib.hid (HB.out.trans (hb.mono HB.out.size))
          clear hb
          go_wp2_with fail
          go_roundw
          case rel => exact ⟨k + 1, by omega, by go_num, HB1, HZ⟩
          case measure => simp [intOf]; omega
        · have hz : decide ((0 : Int) < (k : Int)) = true := by simp; omega
          have hzn : decide (0 < k) = true := by simp; omega
          have hcp := hc (k - 1) (by rw [HN.out]; omega)
          have hk1 : (1 : Int) ≤ (k : Int) := by omega
          have HC := Lib.hid (rok_c hk0 hv)
          clear hv
          rcases hl : Op.bytesLess (ss.getD (k - 1) ByteArray.empty).toList (ss.getD k ByteArray.empty).toList
          · have HZ : Hid (rsB ss = false) := HA.out (HC.out.trans hl)
            generalize ss.getD k ByteArray.empty = s at *
            generalize ss.getD (k - 1) ByteArray.empty = p at *
            clear hc hk0
            have HP := Lib.hid hcp
            clear hcp
            go_wp2_with fail
            refine (implRightValid_c s _ (by omega)).mono ?_
            rintro e w1 ⟨rfl, hb⟩
            rw [HV.out]
            have hcp : w1.cell? ⟨b, off + (k - 1), none⟩ = some (.string p) := (hb.cell (p := ⟨b, off + (k - 1), none⟩) (World.block_lt_of_cell? _ _ HP.out)).trans HP.out
            have HB1 := Lib.hid (HB.out.trans (hb.mono HB.out.size))
            clear hb
            go_wp2_with fail
            go_ret
            exact ⟨by rw [HZ.out]; rfl, HB1.out⟩
          · have HZ := Lib.hid (upto_step HI.out (HC.out.trans hl))
            generalize ss.getD k ByteArray.empty = s at *
            generalize ss.getD (k - 1) ByteArray.empty = p at *
            clear hc hk0
            have HP := Lib.hid hcp
            clear hcp
            go_wp2_with fail
            refine (implRightValid_c s _ (by omega)).mono ?_
            rintro e w1 ⟨rfl, hb⟩
            rw [HV.out]
            have hcp : w1.cell? ⟨b, off + (k - 1), none⟩ = some (.string p) := (hb.cell (p := ⟨b, off + (k - 1), none⟩) (World.block_lt_of_cell? _ _ HP.out)).trans HP.out
            have HB1 := Lib.hid (HB.out.trans (hb.mono HB.out.size))
            clear hb
            go_wp2_with fail
            go_roundw
            case rel => exact ⟨k + 1, by omega, by go_num, HB1, HZ⟩
            case measure => simp [intOf]; omega
    · have hks : k = n := by omega
      have HZ : Hid (rsB ss = decide ((n : Int) ≤ 6)) := by
        show _ = _
        rw [rs_all (fun j hj => HI.out j (by rw [HN.out] at hj; omega)), HN.out]
        simp; omega
      go_wp2_with fail
      go_ret
      exact ⟨by rw [HZ.out]; rfl, HB.out⟩
end Go.Proofs.YteklmebacmbdiaaDoor
