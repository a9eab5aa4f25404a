/-
  Plain laws on lists of remembered translations; no program in sight. No conditions.
-/
import Derived.Test.YthgdhikgknmioaaPure
import Derived.Test.YthgdhikgknmioaaCache
namespace Go.Proofs.Ythgdhikgknmioaa

/-- Is it the translation of a page of an environment? -/
def hit (e p : Int) (c : CachedV) : Bool := (c.e == e) && (c.p == p)
theorem hit_iff {e p : Int} {c : CachedV} : hit e p c = true ↔ c.e = e ∧ c.p = p := by simp [hit]
theorem hit_no {e p : Int} {c : CachedV} : hit e p c = false ↔ ¬ (c.e = e ∧ c.p = p) := by rw [← hit_iff]; simp
/-- Where the first is of which it holds, or -1. -/
def fndP (q : CachedV → Bool) (cs : List CachedV) : Int := match cs.findIdx? q with | some k => (k : Int) | none => -1
def fnd (cs : List CachedV) (e p : Int) : Int := fndP (hit e p) cs
theorem fndP_at {q : CachedV → Bool} {cs : List CachedV} {k : Nat} (hk : k < cs.length) (h : q (cs.getD k c0V) = true) (hb : ∀ j, j < k → q (cs.getD j c0V) = false) : fndP q cs = k := by
  have hf : cs.findIdx? q = some k := by
    rw [List.findIdx?_eq_some_iff_getElem]
    refine ⟨hk, ?_, fun j hj => ?_⟩
    · rw [List.getD_eq_getElem?_getD, List.getElem?_eq_getElem hk] at h; exact h
    · have := hb j hj
      rw [List.getD_eq_getElem?_getD, List.getElem?_eq_getElem (by omega)] at this
      simpa using this
  unfold fndP
  rw [hf]
theorem fndP_none {q : CachedV → Bool} {cs : List CachedV} (h : ∀ j, j < cs.length → q (cs.getD j c0V) = false) : fndP q cs = -1 := by
  have hf : cs.findIdx? q = none := by
    rw [List.findIdx?_eq_none_iff]
    intro x hx
    obtain ⟨j, hj, rfl⟩ := List.getElem_of_mem hx
    have := h j hj
    rw [List.getD_eq_getElem?_getD, List.getElem?_eq_getElem hj] at this
    exact this
  unfold fndP
  rw [hf]
theorem fndP_cases (q : CachedV → Bool) (cs : List CachedV) : (fndP q cs = -1 ∧ ∀ j, j < cs.length → q (cs.getD j c0V) = false) ∨ ∃ k, k < cs.length ∧ fndP q cs = (k : Int) ∧ q (cs.getD k c0V) = true ∧ ∀ j, j < k → q (cs.getD j c0V) = false := by
  rcases hf : cs.findIdx? q with _ | k
  · left
    refine ⟨by unfold fndP; rw [hf], fun j hj => ?_⟩
    have := List.findIdx?_eq_none_iff.1 hf (cs.getD j c0V) (by rw [List.getD_eq_getElem?_getD, List.getElem?_eq_getElem hj]; exact List.getElem_mem hj)
    exact this
  · right
    obtain ⟨hk, h1, h2⟩ := List.findIdx?_eq_some_iff_getElem.1 hf
    refine ⟨k, hk, by unfold fndP; rw [hf], ?_, fun j hj => ?_⟩
    · rw [List.getD_eq_getElem?_getD, List.getElem?_eq_getElem hk]; exact h1
    · have := h2 j hj
      rw [List.getD_eq_getElem?_getD, List.getElem?_eq_getElem (by omega)]
      simpa using this
theorem fnd_at {cs : List CachedV} {e p : Int} {k : Nat} (hk : k < cs.length) (h : hit e p (cs.getD k c0V) = true) (hb : ∀ j, j < k → hit e p (cs.getD j c0V) = false) : fnd cs e p = k := fndP_at hk h hb
theorem fnd_none {cs : List CachedV} {e p : Int} (h : ∀ j, j < cs.length → hit e p (cs.getD j c0V) = false) : fnd cs e p = -1 := fndP_none h
theorem fnd_cases (cs : List CachedV) (e p : Int) : (fnd cs e p = -1 ∧ ∀ j, j < cs.length → hit e p (cs.getD j c0V) = false) ∨ ∃ k, k < cs.length ∧ fnd cs e p = (k : Int) ∧ hit e p (cs.getD k c0V) = true ∧ ∀ j, j < k → hit e p (cs.getD j c0V) = false := fndP_cases (hit e p) cs
theorem fnd_bd (cs : List CachedV) (e p : Int) : -1 ≤ fnd cs e p ∧ fnd cs e p < cs.length := by
  rcases fnd_cases cs e p with ⟨h, _⟩ | ⟨k, hk, h, _⟩ <;> rw [h] <;> omega
theorem fnd_mem {cs : List CachedV} {e p : Int} : 0 ≤ fnd cs e p ↔ ∃ c ∈ cs, c.e = e ∧ c.p = p := by
  rcases fnd_cases cs e p with ⟨h, hn⟩ | ⟨k, hk, h, hh, _⟩
  · rw [h]
    constructor
    · intro h; omega
    · rintro ⟨c, hc, he⟩
      obtain ⟨j, hj, rfl⟩ := List.getElem_of_mem hc
      have := hn j hj
      rw [List.getD_eq_getElem?_getD, List.getElem?_eq_getElem hj] at this
      exact absurd he (hit_no.1 this)
  · rw [h]
    refine ⟨fun _ => ⟨cs.getD k c0V, ?_, hit_iff.1 hh⟩, fun _ => by omega⟩
    rw [List.getD_eq_getElem?_getD, List.getElem?_eq_getElem hk]; exact List.getElem_mem hk
def okC (c : CachedV) : Bool := inR c.e 0 2 && (inR c.p 0 15 && inR c.f 0 11)
/-- At most four, each in range, no page twice. -/
def ccB (cs : List CachedV) : Bool := decide (cs.length ≤ 4) && (List.range cs.length).all fun i => okC (cs.getD i c0V) && decide (fnd (cs.take i) (cs.getD i c0V).e (cs.getD i c0V).p < 0)
theorem ccB_iff (cs : List CachedV) : ccB cs = true ↔ cs.length ≤ 4 ∧ (∀ c ∈ cs, okC c = true) ∧ cs.Pairwise fun a b => ¬ (a.e = b.e ∧ a.p = b.p) := by
  unfold ccB
  rw [Bool.and_eq_true, decide_eq_true_eq, List.all_eq_true]
  have g : ∀ i (h : i < cs.length), cs.getD i c0V = cs[i] := fun i h => by rw [List.getD_eq_getElem?_getD, List.getElem?_eq_getElem h]; rfl
  constructor
  · rintro ⟨h1, h2⟩
    refine ⟨h1, fun c hc => ?_, ?_⟩
    · obtain ⟨i, hi, rfl⟩ := List.getElem_of_mem hc
      have := h2 i (List.mem_range.2 hi)
      rw [Bool.and_eq_true, g i hi] at this
      exact this.1
    · rw [List.pairwise_iff_getElem]
      intro i j hi hj hij he
      have := h2 j (List.mem_range.2 hj)
      rw [Bool.and_eq_true, decide_eq_true_eq, g j hj] at this
      have h3 : 0 ≤ fnd (cs.take j) cs[j].e cs[j].p := fnd_mem.2 ⟨cs[i], List.mem_take_iff_getElem.2 ⟨i, by omega, rfl⟩, he⟩
      omega
  · rintro ⟨h1, h2, h3⟩
    refine ⟨h1, fun i hi => ?_⟩
    have hi' := List.mem_range.1 hi
    rw [Bool.and_eq_true, decide_eq_true_eq, g i hi']
    refine ⟨h2 _ (List.getElem_mem hi'), ?_⟩
    rcases Int.lt_or_le (fnd (cs.take i) cs[i].e cs[i].p) 0 with h | h
    · exact h
    · exfalso
      obtain ⟨c, hc, he⟩ := fnd_mem.1 h
      obtain ⟨j, hj, rfl⟩ := List.mem_take_iff_getElem.1 hc
      rw [List.pairwise_iff_getElem] at h3
      exact h3 j i (by omega) hi' (by omega) he
/-- The whole list finds it no later than its own place. -/
theorem fnd_take {cs : List CachedV} {i : Nat} (hi : i < cs.length) : fnd cs (cs.getD i c0V).e (cs.getD i c0V).p < i ↔ 0 ≤ fnd (cs.take i) (cs.getD i c0V).e (cs.getD i c0V).p := by
  have gt : ∀ j, j < i → (cs.take i).getD j c0V = cs.getD j c0V := fun j hj => by rw [List.getD_eq_getElem?_getD, List.getD_eq_getElem?_getD, List.getElem?_take, if_pos hj]
  have hl : (cs.take i).length = i := by rw [List.length_take]; omega
  have hs : hit (cs.getD i c0V).e (cs.getD i c0V).p (cs.getD i c0V) = true := by simp [hit]
  generalize (cs.getD i c0V).e = e at *
  generalize (cs.getD i c0V).p = p at *
  rcases fnd_cases (cs.take i) e p with ⟨h, hn⟩ | ⟨k, hk, h, hh, hb⟩
  · rw [h]
    refine ⟨fun h2 => ?_, fun h2 => by omega⟩
    exfalso
    rcases fnd_cases cs e p with ⟨_, h3⟩ | ⟨k, hk, h3, hh, _⟩
    · rw [h3 i hi] at hs; cases hs
    · rw [h3] at h2
      have := hn k (by omega)
      rw [gt k (by omega), hh] at this
      cases this
  · rw [hl] at hk
    rw [gt k hk] at hh
    rw [h]
    have : fnd cs e p = k := fnd_at (by omega) hh (fun j hj => by rw [← gt j (by omega)]; exact hb j hj)
    rw [this]
    exact ⟨fun _ => by omega, fun _ => by omega⟩
def cfB (cs : List CachedV) (e p : Int) : Bool := ccB cs && decide (0 ≤ fnd cs e p)
def cfV (cs : List CachedV) (e p : Int) : CachedV := if cfB cs e p then cs.getD (fnd cs e p).toNat c0V else c0V
/-- The list with a translation put behind the others. -/
def putC (cs : List CachedV) (x : CachedV) : List CachedV := (if 4 ≤ (cs.filter fun c => !hit x.e x.p c).length then (cs.filter fun c => !hit x.e x.p c).drop 1 else cs.filter fun c => !hit x.e x.p c) ++ [x]
def cpB (cs : List CachedV) (x : CachedV) : Bool := ccB cs && okC x
def cpL (cs : List CachedV) (x : CachedV) : List CachedV := if cpB cs x then putC cs x else []
def dropC (cs : List CachedV) (e : Int) : List CachedV := cs.filter fun c => !(c.e == e)
def cdL (cs : List CachedV) (e : Int) : List CachedV := if ccB cs then dropC cs e else []

theorem ccB_sub {cs ds : List CachedV} (h : ccB cs = true) (hs : ds.Sublist cs) : ccB ds = true := by
  rw [ccB_iff] at h ⊢
  exact ⟨Nat.le_trans hs.length_le h.1, fun c hc => h.2.1 c (hs.subset hc), h.2.2.sublist hs⟩
/-- What stands there before the new one is put. -/
def keepC (cs : List CachedV) (x : CachedV) : List CachedV := if 4 ≤ (cs.filter fun c => !hit x.e x.p c).length then (cs.filter fun c => !hit x.e x.p c).drop 1 else cs.filter fun c => !hit x.e x.p c
theorem putC_keep (cs : List CachedV) (x : CachedV) : putC cs x = keepC cs x ++ [x] := rfl
theorem keepC_sub (cs : List CachedV) (x : CachedV) : (keepC cs x).Sublist (cs.filter fun c => !hit x.e x.p c) := by
  unfold keepC
  split
  · exact List.drop_sublist _ _
  · exact List.Sublist.refl _
theorem keepC_no {cs : List CachedV} {x c : CachedV} (h : c ∈ keepC cs x) : c ∈ cs ∧ hit x.e x.p c = false := by
  have h1 := (keepC_sub cs x).subset h
  obtain ⟨h2, h3⟩ := List.mem_filter.1 h1
  exact ⟨h2, by simpa using h3⟩
theorem keepC_len {cs : List CachedV} {x : CachedV} (h : cs.length ≤ 4) : (keepC cs x).length ≤ 3 := by
  have h1 : (cs.filter fun c => !hit x.e x.p c).length ≤ cs.length := List.length_filter_le _ _
  unfold keepC
  split
  · rw [List.length_drop]; omega
  · omega
theorem putC_ok {cs : List CachedV} {x : CachedV} (h : cpB cs x = true) : ccB (putC cs x) = true := by
  unfold cpB at h
  rw [Bool.and_eq_true] at h
  obtain ⟨h1, h2⟩ := h
  have h3 := (ccB_iff cs).1 h1
  rw [ccB_iff, putC_keep]
  refine ⟨by rw [List.length_append, List.length_singleton]; have := keepC_len (x := x) h3.1; omega, fun c hc => ?_, ?_⟩
  · rcases List.mem_append.1 hc with hc | hc
    · exact h3.2.1 c (keepC_no hc).1
    · rw [List.mem_singleton.1 hc]; exact h2
  · rw [List.pairwise_append]
    refine ⟨h3.2.2.sublist ((keepC_sub cs x).trans List.filter_sublist), List.pairwise_singleton _ _, fun a ha b hb he => ?_⟩
    rw [List.mem_singleton.1 hb] at he
    exact hit_no.1 (keepC_no ha).2 he
/-- What was put is found at the end. -/
theorem fnd_put {cs : List CachedV} {x : CachedV} : fnd (putC cs x) x.e x.p = ((keepC cs x).length : Nat) ∧ (putC cs x).length = (keepC cs x).length + 1 ∧ (putC cs x).getD (keepC cs x).length c0V = x := by
  have hl : (putC cs x).length = (keepC cs x).length + 1 := by rw [putC_keep]; simp
  have hx : (putC cs x).getD (keepC cs x).length c0V = x := by rw [putC_keep, List.getD_eq_getElem?_getD, List.getElem?_append_right (Nat.le_refl _)]; simp
  refine ⟨fnd_at (by omega) (by rw [hx]; simp [hit]) (fun j hj => ?_), hl, hx⟩
  have : (putC cs x).getD j c0V = (keepC cs x)[j] := by rw [putC_keep, List.getD_eq_getElem?_getD, List.getElem?_append_left hj, List.getElem?_eq_getElem hj]; rfl
  rw [this]
  exact (keepC_no (List.getElem_mem hj)).2
theorem putC_twice {cs : List CachedV} {x : CachedV} (h : cpB cs x = true) : putC (putC cs x) x = putC cs x := by
  have h3 := (ccB_iff cs).1 (by unfold cpB at h; rw [Bool.and_eq_true] at h; exact h.1)
  have hlen := keepC_len (x := x) h3.1
  have hf : (putC cs x).filter (fun c => !hit x.e x.p c) = keepC cs x := by
    rw [putC_keep, List.filter_append]
    have h1 : (keepC cs x).filter (fun c => !hit x.e x.p c) = keepC cs x := List.filter_eq_self.2 fun c hc => by rw [(keepC_no hc).2]; rfl
    have h2 : [x].filter (fun c => !hit x.e x.p c) = [] := by simp [hit]
    rw [h1, h2, List.append_nil]
  have hk : keepC (putC cs x) x = keepC cs x := by
    conv => lhs; unfold keepC
    rw [hf, if_neg (by omega)]
  rw [putC_keep (putC cs x), hk, ← putC_keep]
theorem dropC_find (cs : List CachedV) (e p : Int) : fnd (dropC cs e) e p = -1 := by
  rcases fnd_cases (dropC cs e) e p with ⟨h, _⟩ | ⟨k, hk, _, hh, _⟩
  · exact h
  · exfalso
    have hm : (dropC cs e).getD k c0V ∈ dropC cs e := by rw [List.getD_eq_getElem?_getD, List.getElem?_eq_getElem hk]; exact List.getElem_mem hk
    unfold dropC at hm hh
    obtain ⟨_, h2⟩ := List.mem_filter.1 hm
    rw [(hit_iff.1 hh).1] at h2
    simp at h2
theorem erase_ok {cs : List CachedV} (h : ccB cs = true) (k : Nat) : ccB (cs.take k ++ cs.drop (k + 1)) = true := by
  refine ccB_sub h ?_
  conv => rhs; rw [← List.take_append_drop k cs]
  exact (List.Sublist.refl _).append (List.drop_sublist_drop_left _ (by omega))
theorem twice_bad {cs : List CachedV} {k : Nat} (hk : k < cs.length) : ccB (cs.take (k + 1) ++ cs.drop k) = false := by
  rw [← Bool.not_eq_true, ccB_iff]
  rintro ⟨_, _, h⟩
  rw [List.pairwise_append] at h
  refine h.2.2 cs[k] (List.mem_take_iff_getElem.2 ⟨k, by omega, rfl⟩) cs[k] (List.mem_drop_iff_getElem.2 ⟨0, by omega, by simp⟩) ⟨rfl, rfl⟩
end Go.Proofs.Ythgdhikgknmioaa
