/-
  Plain laws on sets of frames as numbers; no program in sight. No conditions.
-/
import Derived.WalkKit
import Derived.Lib.Hide
namespace Go.Proofs.Ytjmlfjpocjmnpaa

/-- The frames of a number. -/
def bl (n : Nat) : List Nat := (List.range 12).filter n.testBit
/-- A number out of frames, beginning at n: none if a frame does not exist or is there twice. -/
def bo : Nat → List Int → Option Nat
  | n, [] => some n
  | n, f :: l => if (decide (0 ≤ f) && decide (f ≤ 11)) && !n.testBit f.toNat then bo (n + 2 ^ f.toNat) l else none
def boV (l : List Int) : Int := ((bo 0 l).getD 0 : Nat)
def boO (l : List Int) : Bool := (bo 0 l).isSome
/-- a without b. -/
def wo (a b : Nat) : Nat := a ^^^ (a &&& b)

theorem bo_append (l1 l2 : List Int) : ∀ n, bo n (l1 ++ l2) = (bo n l1).bind fun m => bo m l2 := by
  induction l1 with
  | nil => intro n; rfl
  | cons f l ih =>
    intro n
    simp only [List.cons_append, bo]
    split
    · exact ih _
    · rfl
theorem bo_snoc (n : Nat) (l : List Int) (f : Int) : bo n (l ++ [f]) = (bo n l).bind fun m => if (decide (0 ≤ f) && decide (f ≤ 11)) && !m.testBit f.toNat then some (m + 2 ^ f.toNat) else none := by
  rw [bo_append]; rfl

theorem mod_succ (x k : Nat) : x % 2 ^ (k + 1) = x % 2 ^ k + 2 ^ k * (x.testBit k).toNat := by
  rw [Nat.toNat_testBit, ← Nat.mod_pow_succ]
theorem add_disj (x y : Nat) (h : ∀ j, (x.testBit j && y.testBit j) = false) : ∀ k, x % 2 ^ k + y % 2 ^ k = (x ||| y) % 2 ^ k := by
  intro k
  induction k with
  | zero => simp [Nat.mod_one]
  | succ k ih =>
    rw [mod_succ, mod_succ, mod_succ, ← ih, Nat.testBit_or]
    have := h k
    revert this
    cases x.testBit k <;> cases y.testBit k <;> simp <;> omega
theorem add_or {n f : Nat} (hn : n < 4096) (hf : f < 12) (h : n.testBit f = false) : n + 2 ^ f = n ||| 2 ^ f := by
  have hp : 2 ^ f < 4096 := Nat.pow_lt_pow_right (by decide) hf
  have hd := add_disj n (2 ^ f) (fun j => by
    rw [Nat.testBit_two_pow]
    by_cases e : f = j
    · subst e; simp [h]
    · simp [e]) 12
  have ho : n ||| 2 ^ f < 2 ^ 12 := Nat.or_lt_two_pow hn hp
  rw [Nat.mod_eq_of_lt (show n < 2 ^ 12 from hn), Nat.mod_eq_of_lt (show 2 ^ f < 2 ^ 12 from hp), Nat.mod_eq_of_lt ho] at hd
  exact hd
theorem filter_one (p : Nat → Bool) (f : Nat) (hp : p f = false) : ∀ l : List Nat, l.Nodup → f ∈ l → (l.filter fun j => p j || decide (f = j)).length = (l.filter p).length + 1 := by
  have none : ∀ l : List Nat, f ∉ l → (l.filter fun j => p j || decide (f = j)) = l.filter p := by
    intro l hl
    refine List.filter_congr fun j hj => ?_
    have : f ≠ j := fun e => hl (e ▸ hj)
    simp [this]
  intro l
  induction l with
  | nil => intro _ h; cases h
  | cons a l ih =>
    intro hd hm
    obtain ⟨ha, hd'⟩ := List.nodup_cons.1 hd
    by_cases e : f = a
    · subst e
      rw [List.filter_cons, List.filter_cons, none l ha]
      simp [hp]
    · have hm' : f ∈ l := by
        rcases List.mem_cons.1 hm with h | h
        · exact absurd h e
        · exact h
      have := ih hd' hm'
      rw [List.filter_cons, List.filter_cons]
      simp only [e, decide_false, Bool.or_false]
      split
      · rw [List.length_cons, List.length_cons, this]
      · exact this
theorem or_lt {n f : Nat} (hn : n < 4096) (hf : f < 12) : n ||| 2 ^ f < 4096 := Nat.or_lt_two_pow (n := 12) hn (Nat.pow_lt_pow_right (by decide) hf)
theorem testBit_add {n f : Nat} (hn : n < 4096) (hf : f < 12) (h : n.testBit f = false) (j : Nat) : (n + 2 ^ f).testBit j = (n.testBit j || decide (f = j)) := by
  rw [add_or hn hf h, Nat.testBit_or, Nat.testBit_two_pow]

theorem pop_add {n f : Nat} (hn : n < 4096) (hf : f < 12) (h : n.testBit f = false) : (bl (n + 2 ^ f)).length = (bl n).length + 1 := by
  unfold bl
  rw [← filter_one n.testBit f h (List.range 12) List.nodup_range (List.mem_range.2 hf)]
  congr 1
  exact List.filter_congr fun j _ => testBit_add hn hf h j

/-- What a number out of frames is. -/
theorem bo_some : ∀ (l : List Int) (n m : Nat), n < 4096 → bo n l = some m →
    m < 4096 ∧ (∀ f ∈ l, 0 ≤ f ∧ f ≤ 11 ∧ n.testBit f.toNat = false) ∧ l.Nodup ∧ (∀ j, m.testBit j = (n.testBit j || decide ((j : Int) ∈ l))) ∧ (bl m).length = (bl n).length + l.length := by
  intro l
  induction l with
  | nil =>
    intro n m hn h
    obtain rfl : n = m := by simpa [bo] using h
    exact ⟨hn, by simp, List.nodup_nil, by simp, by simp⟩
  | cons f l ih =>
    intro n m hn h
    simp only [bo] at h
    split at h
    · rename_i hc
      simp only [Bool.and_eq_true, decide_eq_true_eq, Bool.not_eq_true'] at hc
      obtain ⟨⟨h0, h1⟩, h2⟩ := hc
      have hf : f.toNat < 12 := by omega
      have hlt : n + 2 ^ f.toNat < 4096 := by rw [add_or hn hf h2]; exact or_lt hn hf
      obtain ⟨g1, g2, g3, g4, g5⟩ := ih _ _ hlt h
      have tb := testBit_add hn hf h2
      refine ⟨g1, ?_, ?_, ?_, ?_⟩
      · intro x hx
        rcases List.mem_cons.1 hx with rfl | hx
        · exact ⟨h0, h1, h2⟩
        · obtain ⟨a, b, c⟩ := g2 x hx
          rw [tb] at c
          simp only [Bool.or_eq_false_iff] at c
          exact ⟨a, b, c.1⟩
      · refine List.nodup_cons.2 ⟨fun hx => ?_, g3⟩
        obtain ⟨a, b, c⟩ := g2 f hx
        rw [tb] at c
        simp at c
      · intro j
        rw [g4, tb]
        have : decide (f.toNat = j) = decide ((j : Int) = f) := by
          rw [decide_eq_decide]; omega
        rw [this, Bool.or_assoc]
        congr 1
        rw [Bool.eq_iff_iff]
        simp
      · rw [g5, pop_add hn hf h2, List.length_cons]; omega
    · cases h
theorem bo_exists : ∀ (l : List Int) (n : Nat), n < 4096 → (∀ f ∈ l, 0 ≤ f ∧ f ≤ 11 ∧ n.testBit f.toNat = false) → l.Nodup → ∃ m, bo n l = some m := by
  intro l
  induction l with
  | nil => intro n _ _ _; exact ⟨n, rfl⟩
  | cons f l ih =>
    intro n hn h hd
    obtain ⟨h0, h1, h2⟩ := h f (List.mem_cons_self ..)
    have hf : f.toNat < 12 := by omega
    obtain ⟨hfl, hd'⟩ := List.nodup_cons.1 hd
    simp only [bo, h0, h1, h2, decide_true, Bool.and_self, Bool.not_false, if_true]
    refine ih _ (by rw [add_or hn hf h2]; exact or_lt hn hf) (fun x hx => ?_) hd'
    obtain ⟨a, b, c⟩ := h x (List.mem_cons_of_mem _ hx)
    refine ⟨a, b, ?_⟩
    rw [testBit_add hn hf h2, c, Bool.false_or, decide_eq_false_iff_not]
    intro e
    have : f = x := by omega
    subst this
    exact hfl hx
theorem testBit_high {n j : Nat} (hn : n < 4096) (hj : 12 ≤ j) : n.testBit j = false :=
  Nat.testBit_lt_two_pow (Nat.lt_of_lt_of_le (show n < 2 ^ 12 from hn) (Nat.pow_le_pow_right (by decide) hj))

/-- Frames in any order give the same number. -/
theorem bo_perm {l l' : List Int} {m : Nat} (h : bo 0 l = some m) (hm : ∀ x, x ∈ l' ↔ x ∈ l) (hd : l'.Nodup) : bo 0 l' = some m := by
  obtain ⟨g1, g2, g3, g4, _⟩ := bo_some l 0 m (by decide) h
  obtain ⟨m', h'⟩ := bo_exists l' 0 (by decide) (fun f hf => g2 f ((hm f).1 hf)) hd
  obtain ⟨k1, k2, k3, k4, _⟩ := bo_some l' 0 m' (by decide) h'
  rw [h']
  congr 1
  apply Nat.eq_of_testBit_eq
  intro j
  rw [k4, g4]
  congr 1
  rw [decide_eq_decide]
  exact hm _
/-- A frame twice is refused. -/
theorem bo_twice {l : List Int} {f : Int} (h : f ∈ l) : bo 0 (l ++ [f]) = none := by
  rcases e : bo 0 (l ++ [f]) with _ | m
  · rfl
  · obtain ⟨_, _, g3, _⟩ := bo_some _ 0 m (by decide) e
    rw [List.nodup_append] at g3
    exact absurd rfl (g3.2.2 f h f (by simp))
theorem mem_bl {n j : Nat} (hn : n < 4096) : j ∈ bl n ↔ n.testBit j = true := by
  unfold bl
  rw [List.mem_filter, List.mem_range]
  refine ⟨fun h => h.2, fun h => ⟨?_, h⟩⟩
  rcases Nat.lt_or_ge j 12 with hj | hj
  · exact hj
  · rw [testBit_high hn hj] at h; cases h
theorem bl_nodup (n : Nat) : (bl n).Nodup := List.Pairwise.filter _ List.nodup_range
/-- The frames of a number give the number. -/
theorem bo_bl {n : Nat} (hn : n < 4096) : bo 0 ((bl n).map (fun j : Nat => (j : Int))) = some n := by
  have hmem : ∀ x : Int, x ∈ (bl n).map (fun j : Nat => (j : Int)) ↔ 0 ≤ x ∧ n.testBit x.toNat = true := by
    intro x
    rw [List.mem_map]
    constructor
    · rintro ⟨j, hj, rfl⟩
      exact ⟨by omega, by simpa using (mem_bl hn).1 hj⟩
    · rintro ⟨h0, h1⟩
      exact ⟨x.toNat, (mem_bl hn).2 h1, by omega⟩
  obtain ⟨m, h⟩ := bo_exists ((bl n).map (fun j : Nat => (j : Int))) 0 (by decide) (fun f hf => by
    obtain ⟨h0, h1⟩ := (hmem f).1 hf
    refine ⟨h0, ?_, by simp⟩
    rcases Nat.lt_or_ge f.toNat 12 with hj | hj
    · omega
    · rw [testBit_high hn hj] at h1; cases h1) (List.pairwise_map.2 ((bl_nodup n).imp fun h e => h (Int.ofNat_inj.1 e)))
  rw [h]
  obtain ⟨_, _, _, g4, _⟩ := bo_some _ 0 m (by decide) h
  congr 1
  apply Nat.eq_of_testBit_eq
  intro j
  rw [g4, Nat.zero_testBit, Bool.false_or]
  rcases e : n.testBit j
  · rw [decide_eq_false_iff_not, hmem]; simp [e]
  · rw [decide_eq_true_eq, hmem]; simp [e]

theorem testBit_wo (a b j : Nat) : (wo a b).testBit j = (a.testBit j && !b.testBit j) := by
  unfold wo
  rw [Nat.testBit_xor, Nat.testBit_and]
  cases a.testBit j <;> cases b.testBit j <;> rfl
theorem wo_lt {a b : Nat} (ha : a < 4096) : wo a b < 4096 := Nat.xor_lt_two_pow (n := 12) ha (Nat.lt_of_le_of_lt Nat.and_le_left ha)
theorem or_lt' {a b : Nat} (ha : a < 4096) (hb : b < 4096) : a ||| b < 4096 := Nat.or_lt_two_pow (n := 12) ha hb
theorem wo_self (a : Nat) : wo a a = 0 := by unfold wo; simp
theorem wo_parts {a b : Nat} : wo a b ||| wo a (wo a b) = a := by
  apply Nat.eq_of_testBit_eq; intro j
  simp only [Nat.testBit_or, testBit_wo]
  cases a.testBit j <;> cases b.testBit j <;> rfl
theorem wo_wo {a b : Nat} : wo (wo a (wo a b)) b = 0 := by
  apply Nat.eq_of_testBit_eq; intro j
  simp only [testBit_wo, Nat.zero_testBit]
  cases a.testBit j <;> cases b.testBit j <;> rfl
theorem wo_add {a b : Nat} (ha : a < 4096) : wo a b + wo a (wo a b) = a := by
  have h := add_disj (wo a b) (wo a (wo a b)) (fun j => by simp only [testBit_wo]; cases a.testBit j <;> cases b.testBit j <;> rfl) 12
  rw [wo_parts] at h
  have h1 : wo a b < 2 ^ 12 := wo_lt ha
  have h2 : wo a (wo a b) < 2 ^ 12 := wo_lt ha
  rw [Nat.mod_eq_of_lt h1, Nat.mod_eq_of_lt h2, Nat.mod_eq_of_lt (show a < 2 ^ 12 from ha)] at h
  exact h
theorem div_testBit (n k : Nat) : (n / 2 ^ k % 2 = 1) ↔ n.testBit k = true := by
  rw [Nat.testBit_eq_decide_div_mod_eq, decide_eq_true_eq]
end Go.Proofs.Ytjmlfjpocjmnpaa
