/-
  What the laws on drawn memories' tables and frames lean on. No conditions.
-/
import Derived.Test.YtdlfnljdhaongaaNamFn
import Derived.Test.YtdlfnljdhaongaaWalk
import Derived.Test.YtdlfnljdhaongaaDrawMs
namespace Go.Proofs.Ytdlfnljdhaongaa
open Go.RowKit

theorem getD_in {l : List Int} {j : Nat} (h : j < l.length) : l.getD j 0 ∈ l := by
  rw [List.getD_eq_getElem?_getD, List.getElem?_eq_getElem h]; exact List.getElem_mem h
theorem nmd_mem {l : List Int} {x : Int} : x ∈ nmd l ↔ ∃ j, j < l.length ∧ egO (l.getD j 0) = true ∧ egF (l.getD j 0) = x := by
  unfold nmd
  rw [List.mem_map]
  constructor
  · rintro ⟨y, hy, rfl⟩
    obtain ⟨h1, h2⟩ := List.mem_filter.1 hy
    obtain ⟨j, hj, rfl⟩ := List.getElem_of_mem h1
    have e : l.getD j 0 = l[j] := by rw [List.getD_eq_getElem?_getD, List.getElem?_eq_getElem hj]; rfl
    exact ⟨j, hj, by rw [e]; exact h2, by rw [e]⟩
  · rintro ⟨j, hj, h1, h2⟩
    exact ⟨l.getD j 0, List.mem_filter.2 ⟨getD_in hj, h1⟩, h2⟩
theorem wt_mem {ls : List (List Int)} {r f : Int} (h : okB ls r = true) : f ∈ wtL ls r ↔ ∃ j : Nat, j < 4 ∧ egO (cellM ls r (j : Int)) = true ∧ egF (cellM ls r (j : Int)) = f := by
  have h' := h
  unfold okB at h'
  rw [Bool.and_eq_true] at h'
  obtain ⟨r0, r1⟩ := inR_iff.1 h'.2
  have hl := (mv_shape h'.1).2.1 r.toNat (by omega)
  rw [wt_yes h, srt_mem, nmd_mem, hl]
  constructor
  · rintro ⟨⟨j, hj, h1, h2⟩, _⟩
    exact ⟨j, hj, h1, h2⟩
  · rintro ⟨j, hj, h1, rfl⟩
    exact ⟨⟨j, hj, h1, rfl⟩, eg_bd h1⟩
theorem wf_mem {ls : List (List Int)} {r f : Int} (h : okB ls r = true) : f ∈ wfL ls r ↔ ∃ t ∈ wtL ls r, ∃ j : Nat, j < 4 ∧ egO (cellM ls t (j : Int)) = true ∧ egF (cellM ls t (j : Int)) = f := by
  have h' := h
  unfold okB at h'
  rw [Bool.and_eq_true] at h'
  have hsh := (mv_shape h'.1).2.1
  have hb : ∀ t ∈ wtL ls r, 0 ≤ t ∧ t ≤ 11 := fun t ht => by
    obtain ⟨j, _, h1, rfl⟩ := (wt_mem h).1 ht
    exact eg_bd h1
  rw [wf_yes h, srt_mem]
  unfold nms
  rw [List.mem_flatMap]
  constructor
  · rintro ⟨⟨t, ht, hf⟩, _⟩
    obtain ⟨t0, t1⟩ := hb t ht
    obtain ⟨j, hj, h1, h2⟩ := nmd_mem.1 hf
    rw [hsh t.toNat (by omega)] at hj
    exact ⟨t, ht, j, hj, h1, h2⟩
  · rintro ⟨t, ht, j, hj, h1, rfl⟩
    obtain ⟨t0, t1⟩ := hb t ht
    exact ⟨⟨t, ht, nmd_mem.2 ⟨j, by rw [hsh t.toNat (by omega)]; exact hj, h1, rfl⟩⟩, eg_bd h1⟩
/-- What a walk finds is listed. -/
theorem wk_in {ls : List (List Int)} {r a : Int} (h : okB ls r = true) (hn : wkN ls r a = 0) : wkF ls r a ∈ wfL ls r := by
  rcases wk_cases ls r a with ⟨_, _, _, _, h0, _⟩ | ⟨_, _, ha, ⟨_, _, _, _, h0⟩ | ⟨_, _, _, _, _, h0⟩ | ⟨o1, o2, hF, _⟩⟩
  · rw [h0] at hn; cases hn
  · rw [h0] at hn; cases hn
  · rw [h0] at hn; cases hn
  · obtain ⟨_, _, _, a0, a1, b0, b1, _, _⟩ := ac_bd ha
    rw [hF]
    refine (wf_mem h).2 ⟨egF (wkX ls r a), (wt_mem h).2 ⟨(acA a).toNat, by omega, ?_, ?_⟩, (acB a).toNat, by omega, ?_, ?_⟩
    · rw [show (((acA a).toNat : Nat) : Int) = acA a from by omega]; exact o1
    · rw [show (((acA a).toNat : Nat) : Int) = acA a from by omega]; rfl
    · rw [show (((acB a).toNat : Nat) : Int) = acB a from by omega]; exact o2
    · rw [show (((acB a).toNat : Nat) : Int) = acB a from by omega]; rfl
/-- What is listed is found by a walk. -/
theorem wk_out {ls : List (List Int)} {r f : Int} (h : okB ls r = true) (hf : f ∈ wfL ls r) : ∃ k : Nat, k < 64 ∧ wkN ls r k = 0 ∧ wkF ls r k = f := by
  have h' := h
  unfold okB at h'
  rw [Bool.and_eq_true] at h'
  obtain ⟨t, ht, j, hj, o2, e2⟩ := (wf_mem h).1 hf
  obtain ⟨i, hi, o1, e1⟩ := (wt_mem h).1 ht
  have ha : inR ((16 * i + 4 * j : Nat) : Int) 0 63 = true := inR_iff.2 (by omega)
  obtain ⟨eA, eB, _⟩ := ac_bd ha
  have eA' : acA ((16 * i + 4 * j : Nat) : Int) = (i : Int) := by rw [eA]; omega
  have eB' : acB ((16 * i + 4 * j : Nat) : Int) = (j : Int) := by rw [eB]; omega
  refine ⟨16 * i + 4 * j, by omega, ?_⟩
  have hX : wkX ls r ((16 * i + 4 * j : Nat) : Int) = cellM ls r (i : Int) := by unfold wkX; rw [eA']
  have hY : wkY ls r ((16 * i + 4 * j : Nat) : Int) = cellM ls t (j : Int) := by unfold wkY; rw [hX, e1, eB']
  rcases wk_cases ls r ((16 * i + 4 * j : Nat) : Int) with ⟨hB, _⟩ | ⟨_, _, _, ⟨o, _⟩ | ⟨_, o, _⟩ | ⟨_, _, hF, _, _, hN⟩⟩
  · unfold wkB at hB; rw [h'.1, h'.2, ha] at hB; cases hB
  · rw [hX, o1] at o; cases o
  · rw [hY, o2] at o; cases o
  · exact ⟨hN, by rw [hF, hY]; exact e2⟩
/-- The frames that the walks from the first k addresses find. -/
def snL (ls : List (List Int)) (r : Int) (k : Nat) : List Int := ((List.range k).filter fun j => wkN ls r (j : Nat) == 0).map fun (j : Nat) => wkF ls r j
theorem snL_succ (ls : List (List Int)) (r : Int) (k : Nat) : snL ls r (k + 1) = snL ls r k ++ (if wkN ls r k = 0 then [wkF ls r k] else []) := by
  unfold snL
  rw [List.range_succ, List.filter_append, List.map_append]
  congr 1
  by_cases h : wkN ls r k = 0 <;> simp [h]
theorem snL_len (ls : List (List Int)) (r : Int) (k : Nat) : (snL ls r k).length ≤ k := by
  unfold snL
  rw [List.length_map]
  exact Nat.le_trans (List.length_filter_le _ _) (by simp)
theorem snL_all {ls : List (List Int)} {r f : Int} (h : okB ls r = true) (hf : f ∈ wfL ls r) : hasN (snL ls r 64) f = true := by
  obtain ⟨k, hk, h1, rfl⟩ := wk_out h hf
  unfold hasN snL
  rw [decide_eq_true_eq]
  exact List.mem_map.2 ⟨k, List.mem_filter.2 ⟨List.mem_range.2 hk, by simpa using h1⟩, rfl⟩
theorem wt_sorted (ls : List (List Int)) (r : Int) : (wtL ls r).Pairwise (· < ·) := by
  rcases h : okB ls r
  · rw [wt_no h]; exact List.Pairwise.nil
  · rw [wt_yes h]; exact srtP_sorted _ _
theorem wf_sorted (ls : List (List Int)) (r : Int) : (wfL ls r).Pairwise (· < ·) := by
  rcases h : okB ls r
  · rw [wf_no h]; exact List.Pairwise.nil
  · rw [wf_yes h]; exact srtP_sorted _ _
theorem wf_len (ls : List (List Int)) (r : Int) : (wfL ls r).length ≤ 12 := by
  rcases h : okB ls r
  · rw [wf_no h]; simp
  · rw [wf_yes h]; exact srtP_len _ _
theorem IntsB.gnone {w w' : World} {B : Nat} {a : Option Addr} {l : List Int} (h : IntsB w B a l) (hg : w.grownBy w' none) (hB : B ≤ w.heap.size) : IntsB w' B a l := h.kept fun j hj => hg.block j (by omega) (fun e => by cases e)
set_option maxHeartbeats 1000000 in
theorem ascends_c (a : Option Addr) (cap : Nat) (l : List Int) (w : World) (h : Ints w a l) (hm : l.length ≤ 1048576) (hs : l.Pairwise (· < ·)) :
    Calls Try.prog 12 #[.slice a l.length cap] w fun e w' => e = .returned (.bool true) ∧ ∃ n, w' = w.drewN n := by
  have H := Lib.hid h
  have HS : Hid (∀ k, k + 1 < l.length → l.getD k 0 < l.getD (k + 1) 0) := by
    intro k hk
    have := (List.pairwise_iff_getElem.1 hs) k (k + 1) (by omega) hk (by omega)
    rw [List.getD_eq_getElem?_getD, List.getElem?_eq_getElem (show k < l.length by omega), List.getD_eq_getElem?_getD, List.getElem?_eq_getElem hk]
    exact this
  clear h hs
  generalize hn : l.length = n at *
  have HNL := Lib.hid hn
  clear hn
  go_enter Try.func12, Try.ntmps12
  go_wp2
  go_loopw [3] (fun i wr => ∃ k q : Nat, 1 ≤ k ∧ (k ≤ n ∨ k = 1) ∧ i = .int .i64 k ∧ wr = w.drewN q) (fun i _ => n + 1 - (intOf i).toNat)
  case atStart => exact ⟨1, 0, Nat.le_refl _, .inr rfl, rfl, rfl⟩
  case round =>
    obtain ⟨k, q, hk1, hk, rfl, rfl⟩ := hrel
    by_cases hlt : k < n
    · rcases H.out with h0 | ⟨b, off, rfl, hc⟩
      · have := HNL.out; rw [h0] at this; simp at this; omega
      obtain ⟨j, rfl⟩ : ∃ j, k = j + 1 := ⟨k - 1, by omega⟩
      have hc1 := hc j (by rw [HNL.out]; omega)
      have hc2 := hc (j + 1) (by rw [HNL.out]; exact hlt)
      have hxy := HS.out j hlt
      clear hc
      generalize l.getD j 0 = x at *
      generalize l.getD (j + 1) 0 = y at *
      have hd : decide (y ≤ x) = false := by simp; omega
      have hwr : IntKind.i64.wrap (((j + 1 : Nat) : Int) - 1) = (j : Int) := by rw [IntKind.wrap_i64]; omega
      have hwr2 : IntKind.i64.wrap ((j : Int) + 1 - 1) = (j : Int) := by rw [IntKind.wrap_i64]; omega
      have hp1 : (j : Int) < (n : Int) := by omega
      have hp2 : (j : Int) + 1 < (n : Int) := by omega
      have hp3 : ((j : Int) + 1).toNat = j + 1 := by omega
      go_wp2_with fail
      go_quiet (fail)
      clear hwr hwr2
      go_wp2
      go_roundw
      case rel => exact ⟨j + 1 + 1, q + nq, by omega, .inl (by omega), by go_num, by simp⟩
      case measure => simp [intOf]; omega
    · go_wp2
      go_ret
      exact ⟨rfl, q, rfl⟩
set_option maxHeartbeats 400000 in
theorem DrawWalkTables_c (a : Option Addr) (len cap : Nat) (w : World) (hB : Bytes w w.heap.size a len) (hc : len ≤ cap) (hm : len ≤ maxLen) :
    Calls Try.prog 5 #[.slice a len cap] w fun e w' => ∃ (v : Value) (ls : List (List Int)) (f : Int), e = .returned (.tuple #[v, .int .i64 f]) ∧ MemDrawn w w' v ls := by
  have HB := Lib.hid hB
  clear hB
  go_enter Try.func5, Try.ntmps5
  go_wp2_with fail
  refine (l6Open_c a len cap w HB.out hc hm).mono ?_
  rintro e w1 ⟨rfl, hg1, hr1⟩
  have hlt : w.heap.size < w1.heap.size := hr1.lt
  go_wp2_with fail
  refine (l91Memory_c w.heap.size 0 _ hr1 (by omega)).mono ?_
  rintro e w2 ⟨v, ls, rfl, ho, hl, hrow, hg2, hr2⟩
  have HF : Hid (∀ w3, w2.grownBy w3 (some w.heap.size) → MemDrawn w w3 v ls) := fun w3 h3 => MemDrawn.of hg1 hlt hg2 ho hl hrow h3
  obtain ⟨x, c, rfl, _, _, _⟩ := ho.mem
  clear ho hl hrow hg1 hg2 hr1
  go_wp2_with fail
  refine (l91Frame_c w.heap.size 500 _ hr2 (by omega)).mono ?_
  rintro e w3 ⟨m3, _, _, rfl, hg3, hr3⟩
  go_wp2
  go_ret2
  exact ⟨_, ls, m3, rfl, HF.out _ hg3⟩
set_option maxHeartbeats 400000 in
theorem DrawWalkFrames_c (a : Option Addr) (len cap : Nat) (w : World) (hB : Bytes w w.heap.size a len) (hc : len ≤ cap) (hm : len ≤ maxLen) :
    Calls Try.prog 13 #[.slice a len cap] w fun e w' => ∃ (v : Value) (ls : List (List Int)) (f : Int), e = .returned (.tuple #[v, .int .i64 f]) ∧ MemDrawn w w' v ls := by
  have HB := Lib.hid hB
  clear hB
  go_enter Try.func13, Try.ntmps13
  go_wp2_with fail
  refine (DrawWalkTables_c a len cap w HB.out hc hm).mono ?_
  rintro e w1 ⟨v, ls, f, rfl, hd⟩
  have HD := Lib.hid hd
  clear hd
  go_wp2
  go_ret2
  exact ⟨_, ls, f, rfl, HD.out⟩
end Go.Proofs.Ytdlfnljdhaongaa
