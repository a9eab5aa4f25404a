/-
  Contracts of the functions that list the frames that words name. No conditions.
-/
import Derived.Test.YtdlfnljdhaongaaNamPl
import Derived.Test.YtdlfnljdhaongaaLays
import Derived.Shelf.Sort.Plain
import Derived.Shelf.Slices.In.SortNone
import Derived.Shelf.Slices.CompactI
import Derived.Sort.OwnSortedInts
import Derived.Lib.OwnBridge
namespace Go.Proofs.Ytdlfnljdhaongaa
open Go.RowKit Go.Sort

/-- 'append' of numbers to a row of the call's own. -/
theorem wpList_appI {ops : Array Oper} {rest : List Oper} {o : Oper} {a : Act} {w : World} {Q : Exit → Act → World → Prop} (hgd : o.guard = none) (s x : Operand)
    (ho : o.op = .call { callee := .builtin .append, args := #[s, x], argTypes := #[26, 26] })
    (base : Nat) (v : Value) (l : List Int) (hs : a.eval s = v) (hown : OwnI w base v l) (b off m c : Nat) (ds : List Int) (hx : a.eval x = .slice (some ⟨b, off, none⟩) m c) (hm : ds.length = m) (hd : ∀ i, i < ds.length → w.cell? ⟨b, off + i, none⟩ = some (.int .i64 (ds.getD i 0)))
    (hl : l.length + ds.length ≤ 4194304) (hbase : base ≤ w.heap.size)
    (h : ∀ v' w', OwnI w' base v' (l ++ ds) → w.grownBy w' v.ownBlock → (v' = .slice none 0 0 ↔ v = .slice none 0 0 ∧ m = 0) → wpList Try.prog ops Q rest (a.put o.dst v') w') : wpList Try.prog ops Q (o :: rest) a w := by
  obtain ⟨i0, hi, hz0, hz1, hz2⟩ := info_parts infoInt
  refine wpList_append_own w hgd s x 26 ho base 3 i0 (.int .i64 0) 1 8 Try.underlying26 hi hz0 hz1 hz2 rfl (by decide) v l.length _ hs hown ⟨b, off, none⟩ m c (ds.map (Value.int .i64)) hx (by rw [List.length_map, hm, Nat.mul_one]) ?_ ?_ (by unfold maxLen; omega) (by omega) hbase ?_
  · intro j u hu
    have hj : j < ds.length := by have := (List.getElem?_eq_some_iff.1 hu).1; rwa [List.length_map] at this
    rw [Addr.add_lit, hd j hj, ← hu, List.getElem?_map, List.getElem?_eq_getElem hj, List.getD_eq_getElem?_getD, List.getElem?_eq_getElem hj]
    rfl
  · intro u hu
    obtain ⟨n, _, rfl⟩ := List.mem_map.1 hu
    rfl
  intro v' w' h2 h3 h4
  refine h v' w' ?_ h3 h4
  unfold OwnI
  rw [List.map_append, List.length_append, hm]
  exact h2
theorem wpList_appI2 {ops : Array Oper} {rest : List Oper} {o : Oper} {a : Act} {w : World} {Q : Exit → Act → World → Prop} (hgd : o.guard = none) (s x : Operand)
    (ho : o.op = .call { callee := .builtin .append, args := #[s, x], argTypes := #[26, 26] })
    (base : Nat) (v : Value) (l : List Int) (hs : a.eval s = v) (hown : OwnI w base v l) (b off m c : Nat) (ds : List Int) (hx : a.eval x = .slice (some ⟨b, off, none⟩) m c) (hm : ds.length = m) (hd : ∀ i, i < ds.length → w.cell? ⟨b, off + i, none⟩ = some (.int .i64 (ds.getD i 0)))
    (hl : l.length + ds.length ≤ 4194304) (hbase : base ≤ w.heap.size)
    (h : ∀ v' w', OwnI w' base v' (l ++ ds) → w.grownBy w' v.ownBlock → (v' = .slice none 0 0 → v = .slice none 0 0) → (v'.ownBlock = v.ownBlock ∨ v'.ownBlock = some w.heap.size) → wpList Try.prog ops Q rest (a.put o.dst v') w') : wpList Try.prog ops Q (o :: rest) a w := by
  obtain ⟨i0, hi, hz0, hz1, hz2⟩ := info_parts infoInt
  refine wpList_append_own_at w hgd s x 26 ho base 3 i0 (.int .i64 0) 1 8 Try.underlying26 hi hz0 hz1 hz2 rfl (by decide) v l.length _ hs hown ⟨b, off, none⟩ m c (ds.map (Value.int .i64)) hx (by rw [List.length_map, hm, Nat.mul_one]) ?_ ?_ (by unfold maxLen; omega) (by omega) hbase ?_
  · intro j u hu
    have hj : j < ds.length := by have := (List.getElem?_eq_some_iff.1 hu).1; rwa [List.length_map] at this
    rw [Addr.add_lit, hd j hj, ← hu, List.getElem?_map, List.getElem?_eq_getElem hj, List.getD_eq_getElem?_getD, List.getElem?_eq_getElem hj]
    rfl
  · intro u hu
    obtain ⟨n, _, rfl⟩ := List.mem_map.1 hu
    rfl
  intro v' w' h2 h3 h4 h5
  refine h v' w' ?_ h3 (fun e => (h4.1 e).1) h5
  unfold OwnI
  rw [List.map_append, List.length_append, hm]
  exact h2
theorem OwnI.cellI {w : World} {base g n c : Nat} {l : List Int} (h : OwnI w base (.slice (some ⟨g, 0, none⟩) n c) l) : ∀ i, i < l.length → w.cell? ⟨g, 0 + i, none⟩ = some (.int .i64 (l.getD i 0)) := by
  intro i hi
  obtain ⟨_, _, ev, hi1, _⟩ := h.val
  simp only [Value.slice.injEq] at ev
  obtain ⟨rfl, rfl, rfl⟩ := ev
  rcases hi1 with h0 | ⟨b, off, e, hc⟩
  · rw [h0] at hi; simp at hi
  · have hown : w.ownsRow base 3 1 (.slice (some ⟨g, 0, none⟩) l.length c) l.length (l.map (Value.int .i64)) := h
    have hh := hown.cellAt i (by omega)
    rw [Nat.zero_add, hh, List.getElem?_map, List.getElem?_eq_getElem hi, List.getD_eq_getElem?_getD, List.getElem?_eq_getElem hi]
    rfl
theorem one_int (w : World) (y : Int) (t : TypeId) : ∀ i, i < [y].length → (w.alloc (.cells #[.int .i64 y] t)).cell? ⟨w.heap.size, 0 + i, none⟩ = some (.int .i64 ([y].getD i 0)) := by
  intro i hi
  have : i = 0 := by simpa using hi
  subst this
  exact cell_new _ _ _ _ _ rfl
theorem none_own {w w1 w2 : World} {row : Option Nat} (h : w.grownBy w1 none) (hg : w1.grownBy w2 row) (hr : ∀ k, row = some k → w.heap.size ≤ k) : w.grownBy w2 none :=
  ⟨hg.os.trans h.os, hg.tape.trans h.tape, hg.output.trans h.output, Nat.le_trans h.size hg.size, fun j hj hne => (hg.block j (by have := h.size; omega) (fun e => by have := hr j e.symm; omega)).trans (h.block j hj hne)⟩
theorem grown_putI {w : World} {g q : Nat} (d : Array Int) : w.grownBy (putRow (Value.int .i64) (Sort.ahead w q) g 0 d) (some g) :=
  ⟨rfl, rfl, rfl, by simp [putRow, mapBlock, Sort.ahead], fun k hk hne => by
    have : g ≠ k := fun e => hne (by rw [e])
    simp [putRow, mapBlock, Sort.ahead, Array.getElem?_modify, this]⟩
/-- What sorting leaves. -/
def SortI (base : Nat) (v : Value) (l : List Int) (w : World) (e : Ending) (w' : World) : Prop := e = .returned (.tuple #[]) ∧ OwnI w' base v (l.mergeSort fun x y => decide (x ≤ y)) ∧ w.grownBy w' v.ownBlock
theorem sortI_c (base : Nat) (v : Value) (l : List Int) (w : World) (h : OwnI w base v l) (hl : l.length ≤ 1048576) : Calls Try.prog 36 #[v] w (SortI base v l w) := by
  have hml : (l.mergeSort fun x y => decide (x ≤ y)).length = l.length := List.length_mergeSort l
  rcases l with _ | ⟨x, l0⟩
  · have hv : ∃ a cap, v = .slice a 0 cap := by
      rcases h.cases with ⟨rfl, _⟩ | ⟨g, cap, rfl, _⟩
      · exact ⟨_, _, rfl⟩
      · exact ⟨_, _, rfl⟩
    obtain ⟨a, cap, rfl⟩ := hv
    have hcon := Any.slices_Sort_int_none Try.laysSort a cap w
    change Calls Try.prog 36 _ _ _ at hcon
    refine hcon.mono ?_
    rintro e w' ⟨rfl, rfl⟩
    exact ⟨rfl, by rw [List.mergeSort_nil]; exact h, grown_refl _ _⟩
  · generalize hll : x :: l0 = l at *
    rcases h.2 with ⟨_, h0⟩ | ⟨g, cap, cur, rfl, hb, hg, hn, hm, hs, ht⟩
    · rw [← hll] at h0; simp at h0
    have hH := holds_of_blockI hg (by rw [Nat.mul_one] at ht; exact ht)
    have hcon := Any.slices_Sort_int Try.laysSort g 0 cap l w hH (Array.getElem?_eq_some_iff.1 hg).1 (by omega)
    change Calls Try.prog 36 _ _ _ at hcon
    refine hcon.mono ?_
    rintro e w' ⟨rfl, n, os, rfl⟩
    refine ⟨rfl, ?_, grownBy_sortedI _⟩
    unfold OwnI
    rw [hml]
    exact ownsRow_sortedI (n := n) (os := os) hml hb hg hn hm hs
/-- What compacting leaves. -/
def CompI (base : Nat) (v : Value) (l : List Int) (w : World) (e : Ending) (w' : World) : Prop := ∃ v', e = .returned v' ∧ OwnI w' base v' (Lib.compact l) ∧ w.grownBy w' v.ownBlock ∧ (∀ g, v'.ownBlock = some g → v.ownBlock = some g)
theorem compI_c (base : Nat) (v : Value) (l : List Int) (w : World) (h : OwnI w base v l) (hl : l.length ≤ 1048576) : Calls Try.prog 37 #[v] w (CompI base v l w) := by
  rcases l with _ | ⟨x, l0⟩
  · have hv : ∃ a cap, v = .slice a 0 cap := by
      rcases h.cases with ⟨rfl, _⟩ | ⟨g, cap, rfl, _⟩
      · exact ⟨_, _, rfl⟩
      · exact ⟨_, _, rfl⟩
    obtain ⟨a, cap, rfl⟩ := hv
    have hcon := Any.slices_Compact_int_empty Try.laysCompact a cap w
    change Calls Try.prog 37 _ _ _ at hcon
    refine hcon.mono ?_
    rintro e w' ⟨rfl, rfl⟩
    exact ⟨_, rfl, h, grown_refl _ _, fun g e => e⟩
  · generalize hll : x :: l0 = l at *
    have hle := Lib.compact_length_le l
    rcases h.2 with ⟨_, h0⟩ | ⟨g, cap, cur, rfl, hb, hg, hn, hm, hs, ht⟩
    · rw [← hll] at h0; simp at h0
    have hH := holds_of_blockI hg (by rw [Nat.mul_one] at ht; exact ht)
    have hcon := Any.slices_Compact_int Try.laysCompact g 0 cap l w hH (by omega) hn
    change Calls Try.prog 37 _ _ _ at hcon
    refine hcon.mono ?_
    rintro e w' ⟨rfl, q, rfl⟩
    refine ⟨_, rfl, ?_, grown_putI _, fun g e => e⟩
    have hc := Lib.ownsRow_putRow (q := q) (k := (Lib.compact l).length) (ys := Lib.compact l ++ List.replicate (l.length - (Lib.compact l).length) 0) (zs := l) h (by simp; omega) hle
    rw [List.take_left] at hc
    exact hc
/-- Frames that are in range. -/
def InR (fs : List Int) : Prop := ∀ i, i < fs.length → 0 ≤ fs.getD i 0 ∧ fs.getD i 0 ≤ 11
/-- What a list in new memory leaves. -/
def NewI (l : List Int) (w : World) (e : Ending) (w' : World) : Prop := ∃ v, e = .returned v ∧ OwnI w' w.heap.size v l ∧ w.grownBy w' none
theorem nms_take_len {ls : List (List Int)} (hv : mvB ls = true) (fs : List Int) (k : Nat) : (nms ls (fs.take k)).length ≤ 4 * fs.length := by
  have hr : ∀ i, (ls.getD i []).length ≤ 4 := by
    intro i
    obtain ⟨h1, h2, _⟩ := mv_shape hv
    by_cases hi : i < 12
    · rw [h2 i hi]; omega
    · rw [List.getD_eq_getElem?_getD, List.getElem?_eq_none (by omega)]; simp
  have := nms_len hr (fs.take k)
  rw [List.length_take] at this
  omega
set_option maxHeartbeats 1000000 in
theorem named_c (B : Nat) (a fa : Option Addr) (cap fcap : Nat) (ls : List (List Int)) (fs : List Int) (w : World) (h : Mem w B a ls) (_hB : B ≤ w.heap.size) (hv : mvB ls = true ∨ fs = []) (hf : Ints w fa fs) (hfs : fs.length ≤ 1000) (hfr : InR fs) (hls : ls.length ≤ 1048576) :
    Calls Try.prog 22 #[.slice a ls.length cap, .slice fa fs.length fcap] w (NewI (srt (nms ls fs)) w) := by
  have H := Lib.hid h
  have HV := Lib.hid hv
  have HF := Lib.hid hf
  have HR := Lib.hid hfr
  have HSR : Hid (Lib.compact ((nms ls fs).mergeSort fun x y => decide (x ≤ y)) = srt (nms ls fs)) := compact_srt fun x hx => nms_bd hx
  have HFT : Hid (fs.take fs.length = fs) := List.take_length
  have HN0 : Hid (OwnI w w.heap.size (.slice none 0 0) (nms ls (fs.take 0))) := World.ownsRow_nil _ _ _ _
  have HLN : Hid ((nms ls fs).length ≤ 4000) := by
    rcases hv with hv | hv
    · have := nms_take_len hv fs fs.length; rw [HFT.out] at this; show _ ≤ _; omega
    · subst hv; show _ ≤ _; simp [nms]
  clear h hv hf hfr
  generalize hn : fs.length = n at *
  have HNL := Lib.hid hn
  clear hn
  go_enter Try.func22, Try.ntmps22
  go_wp2_with fail
  go_loopw [5, 15] (fun v i wr => ∃ k : Nat, k ≤ n ∧ i = .int .i64 k ∧ w.grownBy wr none ∧ Hid (OwnI wr w.heap.size v (nms ls (fs.take k)))) (fun _ i _ => n - (intOf i).toNat)
  case atStart => exact ⟨0, Nat.zero_le _, rfl, grown_refl _ _, HN0.out⟩
  case round =>
    obtain ⟨k, hk, rfl, hg, HO⟩ := hrel
    by_cases hlt : k < n
    · have hvv : mvB ls = true := by
        rcases HV.out with h | h
        · exact h
        · have := HNL.out; rw [h] at this; simp at this; omega
      obtain ⟨q1, q2, q3⟩ := mv_shape hvv
      have HQ3 := Lib.hid q3
      obtain ⟨f0, f1⟩ := HR.out k (by rw [HNL.out]; exact hlt)
      rcases HF.out with h0 | ⟨fb, foff, rfl, hfc⟩
      · have := HNL.out; rw [h0] at this; simp at this; omega
      have hfk := hg.cell (hfc k (by rw [HNL.out]; exact hlt)) (by simp)
      have HE := Lib.hid (nms_succ (ls := ls) (fs := fs) (k := k) (by rw [HNL.out]; exact hlt))
      have HL1 := Lib.hid (nms_take_len hvv fs k)
      obtain ⟨b, off, rfl, hb, ra, rc, hrw, hlrc, hib⟩ := H.out.at_ (i := (fs.getD k 0).toNat) (by omega)
      have hl4 := q2 (fs.getD k 0).toNat (by omega)
      rw [hl4] at hrw hlrc
      replace hrw := hg.cell hrw (by simp)
      rcases hib with h0 | ⟨rb, roff, rfl, hrb, hrc⟩
      · rw [h0] at hl4; cases hl4
      have HRC := Lib.hid hrc
      have HL4 := Lib.hid hl4
      have HG := Lib.hid hg
      have hls12 : (fs.getD k 0) < (ls.length : Int) := by rw [q1]; omega
      have HTN : Hid ((ls.getD (fs.getD k 0).toNat []).take 4 = ls.getD (fs.getD k 0).toNat []) := by
        show _ = _
        rw [← hl4, List.take_length]
      have hlsz : ls.length ≤ 1048576 := hls
      have HW : Hid (∀ j, j < 4 → 0 ≤ (ls.getD (fs.getD k 0).toNat []).getD j 0 ∧ (ls.getD (fs.getD k 0).toNat []).getD j 0 ≤ 9999) := fun j hj => HQ3.out (fs.getD k 0).toNat j (by omega) hj
      clear hfc hrc hl4 q1 q2 q3 HQ3 hg hvv
      generalize ls.getD (fs.getD k 0).toNat [] = row at *
      generalize fs.getD k 0 = f at *
      go_wp2_with fail
      go_loopw [5, 24] (fun v i wr => ∃ j : Nat, j ≤ 4 ∧ i = .int .i64 j ∧ w.grownBy wr none ∧ Hid (OwnI wr w.heap.size v (nms ls (fs.take k) ++ nmd (row.take j)))) (fun _ i _ => 4 - (intOf i).toNat)
      case atStart => exact ⟨0, Nat.zero_le _, rfl, HG.out, by show OwnI _ _ _ _; simpa [nmd] using HO.out⟩
      case round =>
        obtain ⟨j, hj, rfl, hg3, HO2⟩ := hrel
        by_cases hlt2 : j < 4
        · have hcj := hg3.cell (HRC.out j (by rw [HL4.out]; exact hlt2)) (by simp)
          have HES := Lib.hid (nmd_succ (l := row) (k := j) (by rw [HL4.out]; exact hlt2))
          have HLT := Lib.hid (nmd_take_len row j)
          have hwj := (HW.out j hlt2).2
          have HG3 := Lib.hid hg3
          clear hg3
          generalize row.getD j 0 = y at *
          rcases he : egO y
          · go_wp2_with fail
            refine (implEntryGet_c y _ (by omega)).mono ?_
            rintro e w' ⟨rfl, rfl⟩
            rw [he]
            go_wp2_with fail
            go_roundw
            case rel => exact ⟨j + 1, by omega, by go_num, HG3.out, by show OwnI _ _ _ _; rw [HES.out, he]; simpa using HO2.out⟩
            case measure => simp [intOf]; omega
          · go_wp2_with fail
            refine (implEntryGet_c y _ (by omega)).mono ?_
            rintro e w' ⟨rfl, rfl⟩
            rw [he]
            have hs3 := HG3.out.size
            go_wp2_with (at_builtin; refine wpList_appI rfl _ _ rfl w.heap.size _ _ rfl (HO2.out.keptN (World.grownBy_alloc _ _ _)) wr.heap.size 0 1 1 [egF y] rfl rfl (one_int _ _ _) ?c1 ?c2 ?_)
            case c1 => have := HLT.out; have := HL1.out; have := HL4.out; have := HNL.out; rw [List.length_append]; simp; omega
            case c2 => simp; omega
            intro v' w' ho hg _
            have HX : Hid (w.grownBy w' none ∧ OwnI w' w.heap.size v' (nms ls (fs.take k) ++ nmd (row.take (j + 1)))) := by
              have hal : wr.grownBy (wr.alloc (.cells #[.int .i64 (egF y)] 3)) none := World.grownBy_alloc _ _ _
              have hrow : ∀ q, _ = some q → w.heap.size ≤ q := fun q e => (OwnI.lt HO2.out q e).1
              exact ⟨none_own (none_trans HG3.out hal) hg hrow, by rw [HES.out, he, if_pos rfl]; simpa [List.append_assoc] using ho⟩
            clear ho hg
            go_wp2_with fail
            go_roundw
            case rel => exact ⟨j + 1, by omega, by go_num, HX.out.1, HX.out.2⟩
            case measure => simp [intOf]; omega
        · have : j = 4 := by omega
          subst this
          go_wp2_with fail
          go_roundw
          case rel => exact ⟨k + 1, by omega, by go_num, hg3, by show OwnI _ _ _ _; rw [HE.out]; have := HO2.out; rw [HTN.out] at this; exact this⟩
          case measure => simp [intOf]; omega
    · have : k = n := by omega
      subst this
      have ho := HO.out
      rw [HFT.out] at ho
      have HO3 := Lib.hid ho
      have HG3 := Lib.hid hg
      clear ho hg HO
      go_wp2_with fail
      refine (sortI_c w.heap.size _ _ _ HO3.out (by have := HLN.out; omega)).mono ?_
      rintro e w1 ⟨rfl, ho, hg⟩
      have HO4 := Lib.hid ho
      have HG4 : Hid (w.grownBy w1 none) := none_own HG3.out hg (fun q e => (OwnI.lt HO3.out q e).1)
      clear ho hg
      go_wp2_with fail
      refine (compI_c w.heap.size _ _ _ HO4.out (by rw [List.length_mergeSort]; have := HLN.out; omega)).mono ?_
      rintro e w2 ⟨v', rfl, ho, hg, _⟩
      have HF5 : Hid (OwnI w2 w.heap.size v' (srt (nms ls fs)) ∧ w.grownBy w2 none) := ⟨by rw [← HSR.out]; exact ho, none_own HG4.out hg (fun q e => (OwnI.lt HO4.out q e).1)⟩
      clear ho hg
      go_wp2_with fail
      go_ret
      exact ⟨_, rfl, HF5.out.1, HF5.out.2⟩
theorem ints_one (w : World) (y : Int) (t : TypeId) : Ints (w.alloc (.cells #[.int .i64 y] t)) (some ⟨w.heap.size, 0, none⟩) [y] := .inr ⟨w.heap.size, 0, rfl, one_int w y t⟩
theorem wt_yes {ls : List (List Int)} {r : Int} (h : okB ls r = true) : wtL ls r = srt (nmd (ls.getD r.toNat [])) := by unfold wtL; rw [h]; rfl
theorem wt_no {ls : List (List Int)} {r : Int} (h : okB ls r = false) : wtL ls r = [] := by unfold wtL; rw [h]; rfl
theorem wf_yes {ls : List (List Int)} {r : Int} (h : okB ls r = true) : wfL ls r = srt (nms ls (wtL ls r)) := by rw [wt_yes h]; unfold wfL; rw [h]; rfl
theorem wf_no {ls : List (List Int)} {r : Int} (h : okB ls r = false) : wfL ls r = [] := by unfold wfL; rw [h]; rfl
theorem wf_eq (ls : List (List Int)) (r : Int) : srt (nms ls (wtL ls r)) = wfL ls r := by
  rcases h : okB ls r
  · rw [wf_no h, wt_no h, show nms ls [] = [] from rfl]; decide
  · rw [wf_yes h]
theorem nms_one (ls : List (List Int)) (r : Int) : nms ls [r] = nmd (ls.getD r.toNat []) := by simp [nms]
theorem inR_one {r : Int} (h : 0 ≤ r ∧ r ≤ 11) : InR [r] := fun i hi => by
  have : i = 0 := by simpa using hi
  subst this
  exact h
theorem srt_inR (l : List Int) : InR (srt l) := fun i hi => by
  have := (srt_mem (l := l) (x := (srt l).getD i 0)).1 (by rw [List.getD_eq_getElem?_getD, List.getElem?_eq_getElem hi]; exact List.getElem_mem hi)
  exact this.2
theorem wt_inR (ls : List (List Int)) (r : Int) : InR (wtL ls r) := by
  rcases h : okB ls r
  · rw [wt_no h]; intro i hi; simp at hi
  · rw [wt_yes h]; exact srt_inR _
theorem wt_len (ls : List (List Int)) (r : Int) : (wtL ls r).length ≤ 12 := by
  rcases h : okB ls r
  · rw [wt_no h]; simp
  · rw [wt_yes h]; exact srtP_len _ _
set_option maxHeartbeats 1000000 in
theorem implWalkTables_c (B : Nat) (a : Option Addr) (cap : Nat) (ls : List (List Int)) (r : Int) (w : World) (h : Mem w B a ls) (hB : B ≤ w.heap.size) (hs : Small ls) :
    Calls Try.prog 6 #[.slice a ls.length cap, .int .i64 r] w (NewI (wtL ls r) w) := by
  have H := Lib.hid h
  have HS := Lib.hid hs
  have hls := hs.len
  clear h hs
  rcases h1 : mvB ls
  · have HZ : Hid (wtL ls r = []) := wt_no (by unfold okB; rw [h1]; rfl)
    go_enter Try.func6, Try.ntmps6
    go_wp2_with fail
    refine (implMemoryValid_c B a cap ls _ H.out HS.out).mono ?_
    rintro e w' ⟨rfl, rfl⟩
    rw [h1]
    go_wp2_with fail
    go_ret
    exact ⟨_, rfl, by rw [HZ.out]; exact World.ownsRow_nil _ _ _ _, grown_refl _ _⟩
  · rcases h2 : inR r 0 11
    · have HZ : Hid (wtL ls r = []) := wt_no (by unfold okB; rw [h1, h2]; rfl)
      go_enter Try.func6, Try.ntmps6
      go_wp2_with fail
      refine (implMemoryValid_c B a cap ls _ H.out HS.out).mono ?_
      rintro e w' ⟨rfl, rfl⟩
      rw [h1]
      go_wp2_with (go_at_call 21; refine (isFrame_c _ _).mono ?_; rintro e w' ⟨rfl, rfl⟩)
      go_ret
      exact ⟨_, rfl, by rw [HZ.out]; exact World.ownsRow_nil _ _ _ _, grown_refl _ _⟩
    · have HZ : Hid (srt (nms ls [r]) = wtL ls r) := by show _ = _; rw [nms_one, wt_yes (by unfold okB; rw [h1, h2]; rfl)]
      have HR := Lib.hid (inR_iff.1 h2)
      go_enter Try.func6, Try.ntmps6
      go_wp2_with fail
      refine (implMemoryValid_c B a cap ls _ H.out HS.out).mono ?_
      rintro e w' ⟨rfl, rfl⟩
      rw [h1]
      go_wp2_with (go_at_call 21; refine (isFrame_c _ _).mono ?_; rintro e w' ⟨rfl, rfl⟩)
      refine (named_c B a _ cap 1 ls [r] _ (H.out.gnone (World.grownBy_alloc _ _ _) hB) (by simp; omega) (.inl h1) (ints_one _ _ _) (by simp) (inR_one HR.out) hls).mono ?_
      rintro e w1 ⟨v, rfl, ho, hg⟩
      have HF : Hid (OwnI w1 w.heap.size v (wtL ls r) ∧ w.grownBy w1 none) := ⟨by rw [← HZ.out]; exact ho.mono (by simp), none_trans (World.grownBy_alloc w _ none) hg⟩
      clear ho hg
      go_wp2_with fail
      go_ret
      exact ⟨_, rfl, HF.out.1, HF.out.2⟩
set_option maxHeartbeats 1000000 in
theorem implWalkFrames_c (B : Nat) (a : Option Addr) (cap : Nat) (ls : List (List Int)) (r : Int) (w : World) (h : Mem w B a ls) (hB : B ≤ w.heap.size) (hs : Small ls) :
    Calls Try.prog 14 #[.slice a ls.length cap, .int .i64 r] w (NewI (wfL ls r) w) := by
  have H := Lib.hid h
  have HS := Lib.hid hs
  have hls := hs.len
  have HV : Hid (mvB ls = true ∨ wtL ls r = []) := by
    rcases h1 : mvB ls
    · exact .inr (wt_no (by unfold okB; rw [h1]; rfl))
    · exact .inl rfl
  have HWF := Lib.hid (wf_eq ls r)
  have HWL := Lib.hid (wt_len ls r)
  have HWR := Lib.hid (wt_inR ls r)
  clear h hs
  go_enter Try.func14, Try.ntmps14
  go_wp2_with fail
  refine (implWalkTables_c B a cap ls r _ H.out hB HS.out).mono ?_
  rintro e w1 ⟨v, rfl, ho, hg⟩
  obtain ⟨fa, fc, rfl, hi, _⟩ := ho.val
  have HI := Lib.hid hi
  have HG := Lib.hid hg
  clear ho hg hi
  generalize wtL ls r = fs at *
  go_wp2_with fail
  refine (named_c B a fa cap fc ls fs _ (H.out.gnone HG.out hB) (by have := HG.out.size; omega) HV.out HI.out (by have := HWL.out; omega) HWR.out hls).mono ?_
  rintro e w2 ⟨v, rfl, ho, hg⟩
  have HF : Hid (OwnI w2 w.heap.size v (wfL ls r) ∧ w.grownBy w2 none) := ⟨by rw [← HWF.out]; exact ho.mono HG.out.size, none_trans HG.out hg⟩
  clear ho hg
  go_wp2_with fail
  go_ret
  exact ⟨_, rfl, HF.out.1, HF.out.2⟩
/-- .. not nil. -/
def NewS (l : List Int) (w : World) (e : Ending) (w' : World) : Prop := ∃ g c, e = .returned (.slice (some ⟨g, 0, none⟩) l.length c) ∧ OwnI w' w.heap.size (.slice (some ⟨g, 0, none⟩) l.length c) l ∧ w.grownBy w' none
theorem litI (w : World) : OwnI (w.alloc (.cells #[] 3)) w.heap.size (.slice (some ⟨w.heap.size, 0, none⟩) 0 0) [] := World.ownsRow_lit w #[] 0 (Nat.le_refl _) (by unfold maxLen; omega) rfl
theorem own_form {w : World} {base : Nat} {v : Value} {l : List Int} (h : OwnI w base v l) (hn : v ≠ .slice none 0 0) : ∃ g c, v = .slice (some ⟨g, 0, none⟩) l.length c := by
  rcases h.cases with ⟨e, _⟩ | ⟨g, c, e, _⟩
  · exact absurd e hn
  · exact ⟨g, c, e⟩
set_option maxHeartbeats 1000000 in
theorem l3Named_c (a : Option Addr) (cap : Nat) (l : List Int) (w : World) (h : Ints w a l) (hm : l.length ≤ 1000) (hw : ∀ j, j < l.length → l.getD j 0 ≤ 9999) :
    Calls Try.prog 40 #[.slice a l.length cap] w (NewS (nmd l) w) := by
  have H := Lib.hid h
  have HW := Lib.hid hw
  have HL := Lib.hid (litI w)
  have HG0 := Lib.hid (World.grownBy_alloc w (.cells #[] 3) none)
  clear h hw
  generalize hn : l.length = n at *
  have HNL := Lib.hid hn
  clear hn
  go_enter Try.func40, Try.ntmps40
  go_wp2_with fail
  go_loopw [3, 4] (fun v i wr => ∃ k : Nat, k ≤ n ∧ i = .int .i64 k ∧ w.grownBy wr none ∧ Hid (OwnI wr w.heap.size v (nmd (l.take k)) ∧ v ≠ .slice none 0 0)) (fun _ i _ => n - (intOf i).toNat)
  case atStart => exact ⟨0, Nat.zero_le _, rfl, HG0.out, by simpa [nmd] using HL.out, fun e => by cases e⟩
  case round =>
    obtain ⟨k, hk, rfl, hg, HO⟩ := hrel
    by_cases hlt : k < n
    · rcases H.out with h0 | ⟨b, off, rfl, hc⟩
      · have := HNL.out; rw [h0] at this; simp at this; omega
      have hck := hg.cell (hc k (by rw [HNL.out]; exact hlt)) (by simp)
      have HE := Lib.hid (nmd_succ (l := l) (k := k) (by rw [HNL.out]; exact hlt))
      have HLT := Lib.hid (nmd_take_len l k)
      have hwk := HW.out k hlt
      have HG := Lib.hid hg
      clear hg hc
      generalize l.getD k 0 = y at *
      rcases he : egO y
      · go_wp2_with fail
        refine (specEntryGet_c y _ (by omega)).mono ?_
        rintro e w' ⟨rfl, rfl⟩
        rw [he]
        go_wp2_with fail
        go_roundw
        case rel => exact ⟨k + 1, by omega, by go_num, HG.out, by rw [HE.out, he]; simpa using HO.out.1, HO.out.2⟩
        case measure => simp [intOf]; omega
      · go_wp2_with fail
        refine (specEntryGet_c y _ (by omega)).mono ?_
        rintro e w' ⟨rfl, rfl⟩
        rw [he]
        have hs3 := HG.out.size
        go_wp2_with (at_builtin; refine wpList_appI rfl _ _ rfl w.heap.size _ _ rfl (HO.out.1.keptN (World.grownBy_alloc _ _ _)) wr.heap.size 0 1 1 [egF y] rfl rfl (one_int _ _ _) ?c1 ?c2 ?_)
        case c1 => have := HLT.out; have := HNL.out; simp; omega
        case c2 => simp; omega
        intro v' w' ho hg hnn
        have HX : Hid (w.grownBy w' none ∧ OwnI w' w.heap.size v' (nmd (l.take (k + 1))) ∧ v' ≠ .slice none 0 0) := by
          have hal : wr.grownBy (wr.alloc (.cells #[.int .i64 (egF y)] 3)) none := World.grownBy_alloc _ _ _
          exact ⟨none_own (none_trans HG.out hal) hg (fun q e => (OwnI.lt HO.out.1 q e).1), by rw [HE.out, he, if_pos rfl]; exact ho, hnn⟩
        clear ho hg hnn
        go_wp2_with fail
        go_roundw
        case rel => exact ⟨k + 1, by omega, by go_num, HX.out.1, HX.out.2.1, HX.out.2.2⟩
        case measure => simp [intOf]; omega
    · have : k = n := by omega
      subst this
      obtain ⟨g, c, rfl⟩ := own_form HO.out.1 HO.out.2
      have ho := HO.out.1
      have e9 : l.take k = l := by rw [← HNL.out, List.take_length]
      rw [e9] at ho ⊢
      have HO2 := Lib.hid ho
      clear ho HO e9
      go_wp2_with fail
      go_ret
      exact ⟨g, c, rfl, HO2.out, hg⟩
set_option maxHeartbeats 1000000 in
theorem l3Has_c (a : Option Addr) (cap : Nat) (l : List Int) (n : Int) (w : World) (h : Ints w a l) (hm : l.length ≤ 1048576) :
    Calls Try.prog 49 #[.slice a l.length cap, .int .i64 n] w fun e w' => e = .returned (.bool (decide (n ∈ l))) ∧ w = w' := by
  have H := Lib.hid h
  clear h
  have HY : Hid (∀ k, k < l.length → l.getD k 0 = n → decide (n ∈ l) = true) := fun k hk e => decide_eq_true (by rw [← e, List.getD_eq_getElem?_getD, List.getElem?_eq_getElem hk]; exact List.getElem_mem hk)
  have HN : Hid ((∀ k, k < l.length → l.getD k 0 ≠ n) → decide (n ∈ l) = false) := fun hh => decide_eq_false (fun hx => by
    obtain ⟨j, hj, e⟩ := List.getElem_of_mem hx
    exact hh j hj (by rw [List.getD_eq_getElem?_getD, List.getElem?_eq_getElem hj]; exact e))
  generalize hn : l.length = m at *
  have HNL := Lib.hid hn
  clear hn
  generalize decide (n ∈ l) = bb at *
  go_enter Try.func49, Try.ntmps49
  go_wp2
  go_loop [5] (fun i => ∃ k : Nat, k ≤ m ∧ i = .int .i64 k ∧ Hid (∀ j, j < k → l.getD j 0 ≠ n)) (fun i => m - (intOf i).toNat)
  case atStart => exact ⟨0, Nat.zero_le _, rfl, fun j hj => absurd hj (Nat.not_lt_zero _)⟩
  case round =>
    obtain ⟨k, hk, rfl, HI⟩ := hrel
    by_cases hlt : k < m
    · rcases H.out with h0 | ⟨b, off, rfl, hc⟩
      · have := HNL.out; rw [h0] at this; simp at this; omega
      have hck := hc k (by rw [HNL.out]; exact hlt)
      have HYK := Lib.hid (HY.out k hlt)
      have HIK : Hid (l.getD k 0 ≠ n → ∀ j, j < k + 1 → l.getD j 0 ≠ n) := fun hh j hj => by
        by_cases e : j = k
        · subst e; exact hh
        · exact HI.out j (by omega)
      clear hc
      generalize l.getD k 0 = y at *
      by_cases hy : y = n
      · have HZ := Lib.hid (HYK.out hy)
        subst hy
        go_wp2
        go_ret
        exact ⟨by rw [HZ.out]; rfl, rfl⟩
      · have HZ := Lib.hid (HIK.out hy)
        have hy' : (y == n) = false := by simpa using hy
        go_wp2
        go_round
        case rel => exact ⟨k + 1, by omega, by go_num, HZ.out⟩
        case measure => simp [intOf]; omega
    · have : k = m := by omega
      subst this
      have HZ := Lib.hid (HN.out HI.out)
      go_wp2
      go_ret
      exact ⟨by rw [HZ.out]; rfl, rfl⟩
set_option maxHeartbeats 1000000 in
theorem l3Sorted_c (a : Option Addr) (cap : Nat) (l : List Int) (w : World) (h : Ints w a l) (hm : l.length ≤ 1048576) :
    Calls Try.prog 39 #[.slice a l.length cap] w (NewS (srt l) w) := by
  have H := Lib.hid h
  have HL := Lib.hid (litI w)
  have HG0 := Lib.hid (World.grownBy_alloc w (.cells #[] 3) none)
  clear h
  go_enter Try.func39, Try.ntmps39
  go_wp2_with fail
  go_loopw [3, 4] (fun v i wr => ∃ k : Nat, k ≤ 12 ∧ i = .int .i64 k ∧ w.grownBy wr none ∧ Hid (OwnI wr w.heap.size v (srtP l k) ∧ v ≠ .slice none 0 0)) (fun _ i _ => 12 - (intOf i).toNat)
  case atStart => exact ⟨0, Nat.zero_le _, rfl, HG0.out, HL.out, fun e => by cases e⟩
  case round =>
    obtain ⟨k, hk, rfl, hg, HO⟩ := hrel
    by_cases hlt : k < 12
    · have hlt' : (k : Int) < 12 := by omega
      have HE := Lib.hid (srtP_succ l k)
      have HLT := Lib.hid (srtP_len l k)
      have HG := Lib.hid hg
      clear hg
      by_cases he : (k : Int) ∈ l
      · have HD : Hid (decide ((k : Int) ∈ l) = true) := decide_eq_true he
        have HE2 : Hid (srtP l (k + 1) = srtP l k ++ [(k : Int)]) := by show _ = _; rw [HE.out, if_pos he]
        clear he HE
        go_wp2_with fail
        refine (l3Has_c a cap l k _ (H.out.gnone HG.out) hm).mono ?_
        rintro e w' ⟨rfl, rfl⟩
        rw [HD.out]
        have hs3 := HG.out.size
        go_wp2_with (at_builtin; refine wpList_appI rfl _ _ rfl w.heap.size _ _ rfl (HO.out.1.keptN (World.grownBy_alloc _ _ _)) wr.heap.size 0 1 1 [(k : Int)] rfl rfl (one_int _ _ _) ?c1 ?c2 ?_)
        case c1 => have := HLT.out; simp; omega
        case c2 => simp; omega
        intro v' w' ho hg hnn
        have HX : Hid (w.grownBy w' none ∧ OwnI w' w.heap.size v' (srtP l (k + 1)) ∧ v' ≠ .slice none 0 0) := by
          have hal : wr.grownBy (wr.alloc (.cells #[.int .i64 (k : Int)] 3)) none := World.grownBy_alloc _ _ _
          exact ⟨none_own (none_trans HG.out hal) hg (fun q e => (OwnI.lt HO.out.1 q e).1), by rw [HE2.out]; exact ho, hnn⟩
        clear ho hg hnn
        go_wp2_with fail
        go_roundw
        case rel => exact ⟨k + 1, by omega, by go_num, HX.out.1, HX.out.2.1, HX.out.2.2⟩
        case measure => simp [intOf]; omega
      · have HD : Hid (decide ((k : Int) ∈ l) = false) := decide_eq_false he
        have HE2 : Hid (srtP l (k + 1) = srtP l k) := by show _ = _; rw [HE.out, if_neg he, List.append_nil]
        clear he HE
        go_wp2_with fail
        refine (l3Has_c a cap l k _ (H.out.gnone HG.out) hm).mono ?_
        rintro e w' ⟨rfl, rfl⟩
        rw [HD.out]
        go_wp2_with fail
        go_roundw
        case rel => exact ⟨k + 1, by omega, by go_num, HG.out, by rw [HE2.out]; exact HO.out.1, HO.out.2⟩
        case measure => simp [intOf]; omega
    · have : k = 12 := by omega
      subst this
      obtain ⟨g, c, rfl⟩ := own_form HO.out.1 HO.out.2
      have HO2 : Hid (OwnI wr w.heap.size (.slice (some ⟨g, 0, none⟩) (srt l).length c) (srt l)) := HO.out.1
      rw [show srtP l 12 = srt l from rfl]
      clear HO
      go_wp2_with fail
      go_ret
      exact ⟨g, c, rfl, HO2.out, hg⟩
/-- The row of a valid memory. -/
theorem mv_row {w : World} {B : Nat} {a : Option Addr} {ls : List (List Int)} (h : Mem w B a ls) (hv : mvB ls = true) {f : Int} (f0 : 0 ≤ f) (f1 : f ≤ 11) :
    ∃ b off b' off' rc, a = some ⟨b, off, none⟩ ∧ w.cell? ⟨b, off + f.toNat, none⟩ = some (.slice (some ⟨b', off', none⟩) 4 rc) ∧ Ints w (some ⟨b', off', none⟩) (ls.getD f.toNat []) ∧ (ls.getD f.toNat []).length = 4 ∧ ∀ j, j < (ls.getD f.toNat []).length → (ls.getD f.toNat []).getD j 0 ≤ 9999 := by
  obtain ⟨h1, h2, h3⟩ := mv_shape hv
  obtain ⟨b, off, rfl, _, ra, rc, hc, _, hi⟩ := h.at_ (i := f.toNat) (by omega)
  have hl := h2 f.toNat (by omega)
  rw [hl] at hc
  have hi2 := hi.ints
  rcases hi with h0 | ⟨b', off', rfl, _, hcc⟩
  · rw [h0] at hl; cases hl
  · exact ⟨b, off, b', off', rc, rfl, hc, hi2, hl, fun j hj => (h3 f.toNat j (by omega) (by omega)).2⟩
set_option maxHeartbeats 1000000 in
theorem l3Tables_c (B : Nat) (a : Option Addr) (cap : Nat) (ls : List (List Int)) (r : Int) (w : World) (h : Mem w B a ls) (_hB : B ≤ w.heap.size) (hv : okB ls r = true) :
    Calls Try.prog 24 #[.slice a ls.length cap, .int .i64 r] w (NewS (wtL ls r) w) := by
  have hv' := hv
  unfold okB at hv'
  rw [Bool.and_eq_true] at hv'
  obtain ⟨r0, r1⟩ := inR_iff.1 hv'.2
  obtain ⟨b, off, b', off', rc, rfl, hc, hi, hl, hwd⟩ := mv_row h hv'.1 r0 r1
  have hlen := (mv_shape hv'.1).1
  have HI := Lib.hid hi
  have HWD := Lib.hid hwd
  have HNL := Lib.hid (nmd_len (ls.getD r.toNat []))
  have HL := Lib.hid hl
  have HW := Lib.hid (wt_yes hv)
  have hr12 : r < (ls.length : Int) := by rw [hlen]; omega
  have hls : ls.length ≤ 1048576 := by omega
  clear hi hwd hl hv hv' h hlen
  generalize ls.getD r.toNat [] = row at *
  go_enter Try.func24, Try.ntmps24
  go_wp2_with fail
  have hc1 := l3Named_c (some ⟨b', off', none⟩) rc row w HI.out (by have := HL.out; omega) HWD.out
  rw [HL.out] at hc1
  refine hc1.mono ?_
  clear hc1
  rintro e w1 ⟨g, c, rfl, ho, hg⟩
  obtain ⟨_, _, ev, hi1, _⟩ := ho.val
  simp only [Value.slice.injEq, true_and] at ev
  obtain ⟨rfl, rfl⟩ := ev
  have HO := Lib.hid hi1
  have HG := Lib.hid hg
  clear ho hg hi1
  go_wp2_with fail
  refine (l3Sorted_c _ c (nmd row) _ HO.out (by have := HNL.out; have := HL.out; omega)).mono ?_
  rintro e w2 ⟨g2, c2, rfl, ho, hg⟩
  have HF : Hid (OwnI w2 w.heap.size (.slice (some ⟨g2, 0, none⟩) (srt (nmd row)).length c2) (srt (nmd row)) ∧ w.grownBy w2 none) := ⟨ho.mono HG.out.size, none_trans HG.out hg⟩
  clear ho hg
  go_wp2_with fail
  go_ret
  exact ⟨g2, c2, by rw [HW.out]; rfl, by rw [HW.out]; exact HF.out.1, HF.out.2⟩
set_option maxHeartbeats 1000000 in
theorem l3Frames_c (B : Nat) (a : Option Addr) (cap : Nat) (ls : List (List Int)) (r : Int) (w : World) (h : Mem w B a ls) (hB : B ≤ w.heap.size) (hv : okB ls r = true) :
    Calls Try.prog 26 #[.slice a ls.length cap, .int .i64 r] w (NewS (wfL ls r) w) := by
  have hvv : mvB ls = true := by
    unfold okB at hv
    rw [Bool.and_eq_true] at hv
    exact hv.1
  have hlen := (mv_shape hvv).1
  have HV := Lib.hid hvv
  have HOK := Lib.hid hv
  have H := Lib.hid h
  have HW := Lib.hid (wf_yes hv)
  have HWL := Lib.hid (wt_len ls r)
  have HWR := Lib.hid (wt_inR ls r)
  have hls : ls.length ≤ 1048576 := by omega
  have hls2 : (12 : Int) ≤ (ls.length : Int) := by omega
  have HLI := Lib.hid (litI w)
  have HGI := Lib.hid (World.grownBy_alloc w (.cells #[] 3) none)
  clear hv h hvv hlen
  go_enter Try.func26, Try.ntmps26
  go_wp2_with fail
  refine (l3Tables_c B a cap ls r _ (H.out.gnone HGI.out hB) (by simp; omega) HOK.out).mono ?_
  rintro e w1 ⟨g, c, rfl, ho, hg⟩
  have HO1 : Hid (OwnI w1 w.heap.size (.slice (some ⟨w.heap.size, 0, none⟩) 0 0) []) := HLI.out.keptN hg
  obtain ⟨_, _, ev, hi1, _⟩ := ho.val
  simp only [Value.slice.injEq, true_and] at ev
  obtain ⟨rfl, rfl⟩ := ev
  have HG1 := Lib.hid (none_trans HGI.out hg)
  have HGE : Hid (w.heap.size + 1 ≤ g) := by
    have := (OwnI.lt ho g rfl).1
    show _ ≤ _
    simpa using this
  have HOT : Hid (OwnI w1 w.heap.size (.slice (some ⟨g, 0, none⟩) (wtL ls r).length c) (wtL ls r)) := ho.mono (by simp)
  have HFT : Hid ((wtL ls r).take (wtL ls r).length = wtL ls r) := List.take_length
  clear ho hg hi1
  generalize wtL ls r = fs at *
  have hn12 : fs.length ≤ 12 := HWL.out
  generalize hn : fs.length = n at *
  have HNL := Lib.hid hn
  clear hn
  go_wp2_with fail
  go_loopw [5, 7] (fun v i wr => ∃ k : Nat, k ≤ n ∧ i = .int .i64 k ∧ w.grownBy wr none ∧ Hid (OwnI wr w.heap.size v (nms ls (fs.take k)) ∧ v ≠ .slice none 0 0 ∧ v.ownBlock ≠ some g ∧ OwnI wr w.heap.size (.slice (some ⟨g, 0, none⟩) n c) fs)) (fun _ i _ => n - (intOf i).toNat)
  case atStart => exact ⟨0, Nat.zero_le _, rfl, HG1.out, HO1.out, (fun e => by cases e), (fun e => by have := Option.some.inj (show some w.heap.size = some g from e); have := HGE.out; omega), HOT.out⟩
  case round =>
    obtain ⟨k, hk, rfl, hg, HO⟩ := hrel
    by_cases hlt : k < n
    · obtain ⟨f0, f1⟩ := HWR.out k (by rw [HNL.out]; exact hlt)
      have hck := HO.out.2.2.2.cellI k (by rw [HNL.out]; exact hlt)
      have HE := Lib.hid (nms_succ (ls := ls) (fs := fs) (k := k) (by rw [HNL.out]; exact hlt))
      have HL1 := Lib.hid (nms_take_len HV.out fs k)
      obtain ⟨b, off, b', off', rc, rfl, hc, hi, hl, hwd⟩ := mv_row (H.out.gnone hg hB) HV.out f0 f1
      have HI := Lib.hid hi
      have HWD := Lib.hid hwd
      have HNM := Lib.hid (nmd_len (ls.getD (fs.getD k 0).toNat []))
      have HL := Lib.hid hl
      have HG := Lib.hid hg
      have hf12 : fs.getD k 0 < (ls.length : Int) := by omega
      clear hi hwd hl hg
      generalize ls.getD (fs.getD k 0).toNat [] = row at *
      generalize fs.getD k 0 = f at *
      simp only [Nat.zero_add] at hck
      go_wp2_with fail
      have hc1 := l3Named_c (some ⟨b', off', none⟩) rc row wr HI.out (by have := HL.out; omega) HWD.out
      rw [HL.out] at hc1
      refine hc1.mono ?_
      clear hc1
      rintro e w2 ⟨g2, c2, rfl, ho2, hg2⟩
      have HO2 := Lib.hid ho2
      have HG2 := Lib.hid (none_trans HG.out hg2)
      have HOV := Lib.hid (HO.out.1.keptN hg2)
      have HOT2 := Lib.hid (HO.out.2.2.2.keptN hg2)
      have hs2 := HG2.out.size
      have HGL : Hid (g < w2.heap.size) := (OwnI.lt HOT2.out g rfl).2
      clear ho2 hg2
      go_wp2_with (at_builtin; refine wpList_appI2 rfl _ _ rfl w.heap.size _ _ rfl HOV.out g2 0 _ c2 (nmd row) rfl rfl HO2.out.cellI ?c1 ?c2 ?_)
      case c1 => have := HL1.out; have := HNM.out; have := HL.out; have := HNL.out; omega
      case c2 => omega
      intro v' w' ho hg hnn hat
      have HX : Hid (w.grownBy w' none ∧ OwnI w' w.heap.size v' (nms ls (fs.take (k + 1))) ∧ v' ≠ .slice none 0 0 ∧ v'.ownBlock ≠ some g ∧ OwnI w' w.heap.size (.slice (some ⟨g, 0, none⟩) n c) fs) := by
        refine ⟨none_own HG2.out hg (fun q e => (OwnI.lt HOV.out q e).1), by rw [HE.out]; exact ho, fun e => HO.out.2.1 (hnn e), fun e => ?_, HOT2.out.kept hg (.inr (fun e => HO.out.2.2.1 e.symm))⟩
        rcases hat with h | h
        · exact HO.out.2.2.1 (h ▸ e)
        · rw [h] at e; have := Option.some.inj e; have := HGL.out; omega
      clear ho hg hnn hat
      go_wp2_with fail
      go_roundw
      case rel => exact ⟨k + 1, by omega, by go_num, HX.out.1, HX.out.2.1, HX.out.2.2.1, HX.out.2.2.2.1, HX.out.2.2.2.2⟩
      case measure => simp [intOf]; omega
    · have : k = n := by omega
      subst this
      have HL1 := Lib.hid (nms_take_len HV.out fs k)
      obtain ⟨g3, c3, rfl⟩ := own_form HO.out.1 HO.out.2.1
      have ho := HO.out.1
      have hl1 := HL1.out
      rw [HFT.out] at ho hl1 ⊢
      obtain ⟨_, _, ev, hi1, _⟩ := ho.val
      simp only [Value.slice.injEq, true_and] at ev
      obtain ⟨rfl, rfl⟩ := ev
      have HI := Lib.hid hi1
      have HG := Lib.hid hg
      clear ho hg hi1 HO HL1
      go_wp2_with fail
      refine (l3Sorted_c _ c3 (nms ls fs) _ HI.out (by have := HNL.out; omega)).mono ?_
      rintro e w2 ⟨g4, c4, rfl, ho, hg⟩
      have HF : Hid (OwnI w2 w.heap.size (.slice (some ⟨g4, 0, none⟩) (srt (nms ls fs)).length c4) (srt (nms ls fs)) ∧ w.grownBy w2 none) := ⟨ho.mono HG.out.size, none_trans HG.out hg⟩
      clear ho hg
      go_wp2_with fail
      go_ret
      exact ⟨g4, c4, by rw [HW.out]; rfl, by rw [HW.out]; exact HF.out.1, HF.out.2⟩
theorem NewS.toI {l l' : List Int} {w w' : World} {e : Ending} (h : NewS l w e w') (hl : l = l') : NewI l' w e w' := by
  subst hl
  obtain ⟨g, c, he, ho, hg⟩ := h
  exact ⟨_, he, ho, hg⟩
set_option maxHeartbeats 1000000 in
theorem specWalkTables_c (B : Nat) (a : Option Addr) (cap : Nat) (ls : List (List Int)) (r : Int) (w : World) (h : Mem w B a ls) (hB : B ≤ w.heap.size) (hs : Small ls) :
    Calls Try.prog 7 #[.slice a ls.length cap, .int .i64 r] w (NewI (wtL ls r) w) := by
  have H := Lib.hid h
  have HS := Lib.hid hs
  have HLI := Lib.hid (litI w)
  clear h hs
  rcases h1 : okB ls r
  · have HZ := Lib.hid (wt_no h1)
    go_enter Try.func7, Try.ntmps7
    go_wp2_with fail
    refine (l2Ok_c B a cap ls r _ H.out HS.out).mono ?_
    rintro e w' ⟨rfl, rfl⟩
    rw [h1]
    go_wp2_with fail
    go_ret
    exact ⟨_, rfl, by rw [HZ.out]; exact HLI.out, World.grownBy_alloc _ _ _⟩
  · go_enter Try.func7, Try.ntmps7
    go_wp2_with fail
    refine (l2Ok_c B a cap ls r _ H.out HS.out).mono ?_
    rintro e w' ⟨rfl, rfl⟩
    rw [h1]
    go_wp2_with fail
    refine (l3Tables_c B a cap ls r _ H.out hB h1).mono ?_
    rintro e w2 ⟨g, c, rfl, ho, hg⟩
    have HF := Lib.hid (And.intro ho hg)
    clear ho hg
    go_wp2_with fail
    go_ret
    exact ⟨_, rfl, HF.out.1, HF.out.2⟩
set_option maxHeartbeats 1000000 in
theorem specWalkFrames_c (B : Nat) (a : Option Addr) (cap : Nat) (ls : List (List Int)) (r : Int) (w : World) (h : Mem w B a ls) (hB : B ≤ w.heap.size) (hs : Small ls) :
    Calls Try.prog 15 #[.slice a ls.length cap, .int .i64 r] w (NewI (wfL ls r) w) := by
  have H := Lib.hid h
  have HS := Lib.hid hs
  have HLI := Lib.hid (litI w)
  clear h hs
  rcases h1 : okB ls r
  · have HZ := Lib.hid (wf_no h1)
    go_enter Try.func15, Try.ntmps15
    go_wp2_with fail
    refine (l2Ok_c B a cap ls r _ H.out HS.out).mono ?_
    rintro e w' ⟨rfl, rfl⟩
    rw [h1]
    go_wp2_with fail
    go_ret
    exact ⟨_, rfl, by rw [HZ.out]; exact HLI.out, World.grownBy_alloc _ _ _⟩
  · go_enter Try.func15, Try.ntmps15
    go_wp2_with fail
    refine (l2Ok_c B a cap ls r _ H.out HS.out).mono ?_
    rintro e w' ⟨rfl, rfl⟩
    rw [h1]
    go_wp2_with fail
    refine (l3Frames_c B a cap ls r _ H.out hB h1).mono ?_
    rintro e w2 ⟨g, c, rfl, ho, hg⟩
    have HF := Lib.hid (And.intro ho hg)
    clear ho hg
    go_wp2_with fail
    go_ret
    exact ⟨_, rfl, HF.out.1, HF.out.2⟩
end Go.Proofs.Ytdlfnljdhaongaa
