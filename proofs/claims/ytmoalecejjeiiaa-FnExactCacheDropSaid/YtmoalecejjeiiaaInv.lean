/-
  A region whose order is open, by an invariant: plain laws over any program. No conditions.
-/
import Derived.WalkKit
import Derived.RegionTactic
import Derived.Lib.Hide
namespace Go.Proofs.Ytmoalecejjeiiaa
open Go

section
variable {P : Program} {ops : Array Oper} {Q : Exit → Act → World → Prop} {md : Region.Mode}

/-- How many operations are still to come. -/
def missing (n : Nat) (listed : Array Bool) : Nat := ((List.range n).filter fun i => !listed.getD i true).length

theorem getD_setB (listed : Array Bool) (i j : Nat) (d : Bool) (hi : i < listed.size) : (listed.setIfInBounds i true).getD j d = if j = i then true else listed.getD j d := by
  simp only [Array.getD_eq_getD_getElem?, Array.getElem?_setIfInBounds]
  by_cases e : i = j
  · subst e; simp [hi]
  · have : ¬ j = i := fun h => e h.symm
    simp [e, this]

theorem missing_step {n i : Nat} {listed : Array Bool} (hn : i < n) (hi : listed.getD i true = false) (hs : i < listed.size) : missing n (listed.setIfInBounds i true) + 1 ≤ missing n listed := by
  unfold missing
  have key : ∀ l : List Nat, l.Nodup → i ∈ l → (l.filter fun j => !(listed.setIfInBounds i true).getD j true).length + 1 ≤ (l.filter fun j => !listed.getD j true).length := by
    have same : ∀ l : List Nat, i ∉ l → (l.filter fun j => !(listed.setIfInBounds i true).getD j true) = l.filter fun j => !listed.getD j true := by
      intro l hl
      refine List.filter_congr fun j hj => ?_
      have hne : ¬ j = i := fun e => hl (by rw [← e]; exact hj)
      rw [getD_setB _ _ _ _ hs, if_neg hne]
    intro l
    induction l with
    | nil => intro _ h; cases h
    | cons a l ih =>
      intro hd hm
      obtain ⟨ha, hd'⟩ := List.nodup_cons.1 hd
      rw [List.filter_cons, List.filter_cons]
      by_cases e : i = a
      · subst e
        rw [same l ha, getD_setB _ _ _ _ hs, if_pos rfl, hi]
        simp
      · have hm' : i ∈ l := by
          rcases List.mem_cons.1 hm with h | h
          · exact absurd h e
          · exact h
        have := ih hd' hm'
        have hne : ¬ a = i := fun h => e h.symm
        rw [getD_setB _ _ _ _ hs, if_neg hne]
        split
        · simp only [List.length_cons]; omega
        · exact this
  exact key _ List.nodup_range (List.mem_range.2 hn)

theorem ready_spec {listed : Array Bool} {i : Nat} (h : i ∈ Region.ready md ops listed) : i < ops.size ∧ listed.getD i true = false ∧ ∀ o, ops[i]? = some o → ∀ e ∈ o.after, Region.binds md e = true → listed.getD e.on false = true := by
  unfold Region.ready at h
  obtain ⟨h1, h2⟩ := List.mem_filter.1 h
  rw [Bool.and_eq_true] at h2
  refine ⟨List.mem_range.1 h1, by simpa using h2.1, fun o ho e he hb => ?_⟩
  have h3 := h2.2
  rw [ho] at h3
  simp only [Option.map_some, Option.getD_some, Array.all_eq_true'] at h3
  have := h3 e he
  rw [hb] at this
  simpa using this

/-- No binding edge leads forward. -/
def backward (md : Region.Mode) (ops : Array Oper) : Bool := (List.range ops.size).all fun i => ((ops[i]?).map fun o => o.after.all fun e => !Region.binds md e || decide (e.on < i)).getD true

theorem ready_nil {listed : Array Bool} (hb : backward md ops = true) (hs : listed.size = ops.size) (h : Region.ready md ops listed = []) : ∀ i, i < ops.size → listed.getD i false = true := by
  intro i
  induction i using Nat.strongRecOn with
  | _ i ih =>
    intro hi
    rcases e : listed.getD i false
    · exfalso
      have hm : i ∈ Region.ready md ops listed := by
        unfold Region.ready
        refine List.mem_filter.2 ⟨List.mem_range.2 hi, ?_⟩
        have h1 : listed.getD i true = false := by
          have hlt : i < listed.size := by omega
          rw [Array.getD_eq_getD_getElem?, Array.getElem?_eq_getElem hlt] at e ⊢
          exact e
        rw [h1]
        have hb' := (List.all_eq_true.1 hb) i (List.mem_range.2 hi)
        rw [Array.getElem?_eq_getElem hi] at hb' ⊢
        simp only [Option.map_some, Option.getD_some, Bool.not_false, Bool.true_and, Array.all_eq_true'] at hb' ⊢
        intro x hx
        have := hb' x hx
        rcases hbi : Region.binds md x
        · rfl
        · rw [hbi] at this
          simp only [Bool.not_true, Bool.false_or, decide_eq_true_eq] at this
          simp only [Bool.not_true, Bool.false_or]
          exact ih x.on this (by omega)
      rw [h] at hm
      cases hm
    · rfl

theorem wpAny_inv (I : Array Bool → Act → World → Prop) (hb : backward md ops = true)
    (hstep : ∀ listed a w i, listed.size = ops.size → I listed a w → i < ops.size → listed.getD i true = false → (∀ o, ops[i]? = some o → ∀ e ∈ o.after, Region.binds md e = true → listed.getD e.on false = true) →
      wpOp P ops Q i (fun a' w' => I (listed.setIfInBounds i true) a' w') a w)
    (hend : ∀ listed a w, I listed a w → (∀ i, i < ops.size → listed.getD i false = true) → Q .normal a w) :
    ∀ fuel listed a w, listed.size = ops.size → missing ops.size listed ≤ fuel → I listed a w → wpAny P md ops Q fuel listed a w := by
  intro fuel
  induction fuel with
  | zero =>
    intro listed a w hs hm hI
    have hr : Region.ready md ops listed = [] := by
      rcases e : Region.ready md ops listed with _ | ⟨i, l⟩
      · rfl
      · obtain ⟨h1, h2, _⟩ := ready_spec (md := md) (ops := ops) (listed := listed) (i := i) (by rw [e]; exact List.mem_cons_self ..)
        have := missing_step h1 h2 (by omega)
        omega
    exact ⟨hr, hend _ _ _ hI (ready_nil hb hs hr)⟩
  | succ fuel ih =>
    intro listed a w hs hm hI
    refine ⟨fun hr => hend _ _ _ hI (ready_nil hb hs hr), fun i hi => ?_⟩
    obtain ⟨h1, h2, h3⟩ := ready_spec hi
    refine wpOp_mono (fun a' w' hI' => ?_) (hstep listed a w i hs hI h1 h2 h3)
    exact ih _ _ _ (by simpa using hs) (by have := missing_step h1 h2 (listed := listed) (by omega); omega) hI'

theorem missing_all (n : Nat) : missing n (Array.replicate n false) ≤ n := by
  unfold missing
  exact Nat.le_trans (List.length_filter_le _ _) (by simp)

theorem wp_region_inv {id : Nat} {a : Act} {w : World} (hm : P.follows .mixedOrders = true) (I : Array Bool → Act → World → Prop) (hb : backward .any ops = true)
    (hstart : I (Array.replicate ops.size false) a w.drew)
    (hstep : ∀ listed a w i, listed.size = ops.size → I listed a w → i < ops.size → listed.getD i true = false → (∀ o, ops[i]? = some o → ∀ e ∈ o.after, Region.binds .any e = true → listed.getD e.on false = true) →
      wpOp P ops Q i (fun a' w' => I (listed.setIfInBounds i true) a' w') a w)
    (hend : ∀ listed a w, I listed a w → (∀ i, i < ops.size → listed.getD i false = true) → Q .normal a w) : (Code.region id ops true).wp P Q a w :=
  wp_region_any hm (wpAny_inv I hb hstep hend ops.size _ a _ (by simp) (missing_all _) hstart)
theorem wpOp_run {i : Nat} {o : Oper} {a : Act} {w : World} {I : Act → World → Prop} (ho : ops[i]? = some o) (hg : o.guard = none) (h : ∀ K : Act → World → Prop, (∀ a w, I a w → K a w) → o.wp P a w K Q) : wpOp P ops Q i I a w := by
  unfold wpOp
  rw [ho]
  have hw : Region.wanted o (yielded ops a.tmps) = true := by unfold Region.wanted; rw [hg]
  simp only [hw, if_true]
  exact Or.inl (h I (fun _ _ h => h))
theorem wpOp_via {i : Nat} {a : Act} {w : World} {I : Act → World → Prop} (h : ∀ K : Act → World → Prop, (∀ a w, I a w → K a w) → wpOp P ops Q i K a w) : wpOp P ops Q i I a w := h I (fun _ _ h => h)
end
end Go.Proofs.Ytmoalecejjeiiaa
