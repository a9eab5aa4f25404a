/-
  Plain laws on the frames that words name; no program in sight. No conditions.
-/
import Derived.Test.YtdlfnljdhaongaaMemFn
import Derived.Lib.SlicesCompact
namespace Go.Proofs.Ytdlfnljdhaongaa

/-- The frames that some words name, in order. -/
def nmd (l : List Int) : List Int := (l.filter egO).map egF
/-- .. those that the words of some frames name. -/
def nms (ls : List (List Int)) (fs : List Int) : List Int := fs.flatMap fun f => nmd (ls.getD f.toNat [])
/-- The frames below k of a list, ascending, each once. -/
def srtP (l : List Int) (k : Nat) : List Int := ((List.range k).map fun (j : Nat) => (j : Int)).filter fun f => decide (f ∈ l)
def srt (l : List Int) : List Int := srtP l 12
theorem takeI (l : List Int) (k : Nat) (h : k < l.length) : l.take (k + 1) = l.take k ++ [l.getD k 0] := by
  rw [List.take_succ_eq_append_getElem h, List.getD_eq_getElem?_getD, List.getElem?_eq_getElem h]; rfl
theorem nmd_app (l m : List Int) : nmd (l ++ m) = nmd l ++ nmd m := by simp [nmd]
theorem nmd_succ {l : List Int} {k : Nat} (h : k < l.length) : nmd (l.take (k + 1)) = nmd (l.take k) ++ (if egO (l.getD k 0) = true then [egF (l.getD k 0)] else []) := by
  rw [takeI l k h, nmd_app]
  congr 1
  generalize l.getD k 0 = y
  by_cases e : egO y = true <;> simp [nmd, e]
theorem nmd_len (l : List Int) : (nmd l).length ≤ l.length := by
  unfold nmd
  rw [List.length_map]
  exact List.length_filter_le _ _
theorem nmd_take_len (l : List Int) (k : Nat) : (nmd (l.take k)).length ≤ l.length := Nat.le_trans (nmd_len _) (by rw [List.length_take]; omega)
theorem nms_succ {ls : List (List Int)} {fs : List Int} {k : Nat} (h : k < fs.length) : nms ls (fs.take (k + 1)) = nms ls (fs.take k) ++ nmd (ls.getD (fs.getD k 0).toNat []) := by
  rw [takeI fs k h]
  simp [nms]
theorem nmd_bd {l : List Int} {x : Int} (h : x ∈ nmd l) : 0 ≤ x ∧ x ≤ 11 := by
  unfold nmd at h
  obtain ⟨n, hn, rfl⟩ := List.mem_map.1 h
  obtain ⟨_, ho⟩ := List.mem_filter.1 hn
  have h1 := egO_iff.1 ho
  simp only [egF, ho, if_true]
  omega
theorem nms_bd {ls : List (List Int)} {fs : List Int} {x : Int} (h : x ∈ nms ls fs) : 0 ≤ x ∧ x ≤ 11 := by
  obtain ⟨f, _, hx⟩ := List.mem_flatMap.1 h
  exact nmd_bd hx
theorem nms_len {ls : List (List Int)} (hr : ∀ i, (ls.getD i []).length ≤ 4) (fs : List Int) : (nms ls fs).length ≤ 4 * fs.length := by
  induction fs with
  | nil => simp [nms]
  | cons f fs ih =>
    have h1 := nmd_len (ls.getD f.toNat [])
    have h2 := hr f.toNat
    have e : nms ls (f :: fs) = nmd (ls.getD f.toNat []) ++ nms ls fs := by simp [nms]
    rw [e, List.length_append, List.length_cons]
    omega
theorem srtP_succ (l : List Int) (k : Nat) : srtP l (k + 1) = srtP l k ++ (if (k : Int) ∈ l then [(k : Int)] else []) := by
  unfold srtP
  rw [List.range_succ, List.map_append, List.filter_append]
  congr 1
  by_cases h : (k : Int) ∈ l <;> simp [h]
theorem srtP_len (l : List Int) (k : Nat) : (srtP l k).length ≤ k := by
  unfold srtP
  exact Nat.le_trans (List.length_filter_le _ _) (by simp)
theorem srt_mem {l : List Int} {x : Int} : x ∈ srt l ↔ x ∈ l ∧ 0 ≤ x ∧ x ≤ 11 := by
  unfold srt srtP
  rw [List.mem_filter, List.mem_map]
  constructor
  · rintro ⟨⟨j, hj, rfl⟩, h⟩
    have := List.mem_range.1 hj
    exact ⟨by simpa using h, by omega, by omega⟩
  · rintro ⟨h, h0, h1⟩
    exact ⟨⟨x.toNat, List.mem_range.2 (by omega), by omega⟩, by simpa using h⟩
theorem srtP_sorted (l : List Int) (k : Nat) : (srtP l k).Pairwise (· < ·) := by
  unfold srtP
  refine List.Pairwise.filter _ ?_
  rw [List.pairwise_map]
  exact List.pairwise_lt_range.imp (fun h => by omega)
theorem ext_sorted : ∀ {l1 l2 : List Int}, l1.Pairwise (· < ·) → l2.Pairwise (· < ·) → (∀ x, x ∈ l1 ↔ x ∈ l2) → l1 = l2
  | [], [], _, _, _ => rfl
  | [], b :: l2, _, _, h => absurd ((h b).2 (List.mem_cons_self ..)) (by simp)
  | a :: l1, [], _, _, h => absurd ((h a).1 (List.mem_cons_self ..)) (by simp)
  | a :: l1, b :: l2, h1, h2, h => by
    obtain ⟨p1, q1⟩ := List.pairwise_cons.1 h1
    obtain ⟨p2, q2⟩ := List.pairwise_cons.1 h2
    have hab : a = b := by
      have ha := (h a).1 (List.mem_cons_self ..)
      have hb := (h b).2 (List.mem_cons_self ..)
      rcases List.mem_cons.1 ha with e | ha
      · exact e
      · rcases List.mem_cons.1 hb with e | hb
        · exact e.symm
        · have := p1 b hb; have := p2 a ha; omega
    subst hab
    rw [ext_sorted q1 q2 fun x => ?_]
    constructor
    · intro hx
      have := p1 x hx
      rcases List.mem_cons.1 ((h x).1 (List.mem_cons_of_mem _ hx)) with e | hx2
      · omega
      · exact hx2
    · intro hx
      have := p2 x hx
      rcases List.mem_cons.1 ((h x).2 (List.mem_cons_of_mem _ hx)) with e | hx2
      · omega
      · exact hx2
theorem compact_up {d : Array Int} (hs : ∀ i j, i ≤ j → j < d.size → d[i]! ≤ d[j]!) : ∀ m, m ≤ d.size → (Lib.compactUpTo d m).Pairwise (· < ·) ∧ ∀ x, x ∈ Lib.compactUpTo d m ↔ ∃ j, j < m ∧ d[j]! = x := by
  intro m
  induction m with
  | zero => intro _; exact ⟨by simp [Lib.compactUpTo], fun x => by simp [Lib.compactUpTo]⟩
  | succ m ih =>
    intro hm
    obtain ⟨h1, h2⟩ := ih (by omega)
    rw [Lib.compactUpTo_succ]
    by_cases hk : Lib.keeps d m = true
    · rw [if_pos hk]
      refine ⟨?_, fun x => ?_⟩
      · rw [List.pairwise_append]
        refine ⟨h1, List.pairwise_singleton _ _, fun a ha b hb => ?_⟩
        rw [List.mem_singleton.1 hb]
        obtain ⟨j, hj, rfl⟩ := (h2 a).1 ha
        have hne : d[m]! ≠ d[m - 1]! := by
          have hk' := hk
          simp only [Lib.keeps, decide_eq_true_eq] at hk'
          rcases hk' with h | h
          · omega
          · exact h
        have e1 := hs j (m - 1) (by omega) (by omega)
        have e2 := hs (m - 1) m (by omega) (by omega)
        omega
      · rw [List.mem_append, h2 x, List.mem_singleton]
        constructor
        · rintro (⟨j, hj, e⟩ | e)
          · exact ⟨j, by omega, e⟩
          · exact ⟨m, by omega, e.symm⟩
        · rintro ⟨j, hj, e⟩
          by_cases hjm : j = m
          · subst hjm; exact .inr e.symm
          · exact .inl ⟨j, by omega, e⟩
    · rw [if_neg hk, List.append_nil]
      refine ⟨h1, fun x => ?_⟩
      rw [h2 x]
      have hk' : m ≠ 0 ∧ d[m]! = d[m - 1]! := by
        simp only [Lib.keeps, decide_eq_true_eq] at hk
        exact ⟨fun e => hk (.inl e), Classical.byContradiction fun e => hk (.inr e)⟩
      constructor
      · rintro ⟨j, hj, e⟩; exact ⟨j, by omega, e⟩
      · rintro ⟨j, hj, e⟩
        by_cases hjm : j = m
        · subst hjm; exact ⟨j - 1, by omega, by rw [← hk'.2]; exact e⟩
        · exact ⟨j, by omega, e⟩
/-- Sorted and compacted: the frames of the list, ascending, each once. -/
theorem compact_srt {l : List Int} (h : ∀ x ∈ l, 0 ≤ x ∧ x ≤ 11) : Lib.compact (l.mergeSort fun x y => decide (x ≤ y)) = srt l := by
  have hp : (l.mergeSort fun x y => decide (x ≤ y)).Pairwise fun a b => decide (a ≤ b) = true := List.pairwise_mergeSort (fun a b c hab hbc => by simp at hab hbc ⊢; omega) (fun a b => by simp; omega) l
  have hmem : ∀ x, x ∈ (l.mergeSort fun x y => decide (x ≤ y)) ↔ x ∈ l := fun x => List.mem_mergeSort
  generalize (l.mergeSort fun x y => decide (x ≤ y)) = z at *
  have hs : ∀ i j, i ≤ j → j < z.toArray.size → z.toArray[i]! ≤ z.toArray[j]! := by
    intro i j hij hj
    have hj' : j < z.length := by simpa using hj
    rw [getElem!_pos z.toArray i (by simp; omega), getElem!_pos z.toArray j (by simpa using hj')]
    simp only [List.getElem_toArray]
    by_cases e : i = j
    · subst e; exact Int.le_refl _
    · have := (List.pairwise_iff_getElem.1 hp) i j (by omega) hj' (by omega)
      simpa using this
  obtain ⟨h1, h2⟩ := compact_up hs z.length (by simp)
  refine ext_sorted h1 (srtP_sorted _ _) fun x => ?_
  rw [show (x ∈ Lib.compact z ↔ _) from h2 x]
  rw [srt_mem, ← hmem x]
  constructor
  · rintro ⟨j, hj, rfl⟩
    have hm : z.toArray[j]! ∈ z := by rw [getElem!_pos z.toArray j (by simpa using hj)]; simp
    exact ⟨hm, h _ ((hmem _).1 hm)⟩
  · rintro ⟨hx, _⟩
    obtain ⟨j, hj, rfl⟩ := List.getElem_of_mem hx
    exact ⟨j, hj, by rw [getElem!_pos z.toArray j (by simpa using hj)]; simp⟩
theorem srt_nil : srt [] = [] := by decide
/-- What the two functions answer. -/
def wtL (ls : List (List Int)) (r : Int) : List Int := if okB ls r then srt (nmd (ls.getD r.toNat [])) else []
def wfL (ls : List (List Int)) (r : Int) : List Int := if okB ls r then srt (nms ls (srt (nmd (ls.getD r.toNat [])))) else []
end Go.Proofs.Ytdlfnljdhaongaa
