/-
  Contracts of the functions that read lists of lists of numbers. No conditions.
-/
import Derived.Test.YtjmlfjpocjmnpaaMem
import Derived.LoopTactic
namespace Go.Proofs.Ytjmlfjpocjmnpaa
open Go.RowKit

def wdB (l : List Int) : Bool := decide (l.length = 4) && l.all fun n => inR n 0 9999
def mvB (ls : List (List Int)) : Bool := decide (ls.length = 12) && ls.all wdB
theorem all_yes {l : List Int} {p : Int → Bool} (h : ∀ j, j < l.length → p (l.getD j 0) = true) : l.all p = true := by
  rw [List.all_eq_true]
  intro x hx
  obtain ⟨j, hj, rfl⟩ := List.getElem_of_mem hx
  have := h j hj
  rw [List.getD_eq_getElem?_getD, List.getElem?_eq_getElem hj] at this
  exact this
theorem all_no {l : List Int} {p : Int → Bool} {j : Nat} (hj : j < l.length) (h : p (l.getD j 0) = false) : l.all p = false := by
  rw [← Bool.not_eq_true, List.all_eq_true]
  intro hall
  have := hall (l.getD j 0) (getD_mem hj)
  rw [h] at this
  cases this
theorem allL_yes {l : List (List Int)} {p : List Int → Bool} (h : ∀ j, j < l.length → p (l.getD j []) = true) : l.all p = true := by
  rw [List.all_eq_true]
  intro x hx
  obtain ⟨j, hj, rfl⟩ := List.getElem_of_mem hx
  have := h j hj
  rw [List.getD_eq_getElem?_getD, List.getElem?_eq_getElem hj] at this
  exact this
theorem getD_memL {l : List (List Int)} {k : Nat} (h : k < l.length) : l.getD k [] ∈ l := by
  rw [List.getD_eq_getElem?_getD, List.getElem?_eq_getElem h]; exact List.getElem_mem h
theorem allL_no {l : List (List Int)} {p : List Int → Bool} {j : Nat} (hj : j < l.length) (h : p (l.getD j []) = false) : l.all p = false := by
  rw [← Bool.not_eq_true, List.all_eq_true]
  intro hall
  have := hall (l.getD j []) (getD_memL hj)
  rw [h] at this
  cases this

/-- What is left of a purse. -/
def szV (n : Int) (k : Nat) : Int := if n - k < 0 then -1 else n - k
/-- A list of lists is not too large. -/
def Small (ls : List (List Int)) : Prop := ls.length + sums ls ls.length ≤ 1048576
theorem Small.len {ls : List (List Int)} (h : Small ls) : ls.length ≤ 1048576 := by unfold Small at h; omega
theorem Small.row {ls : List (List Int)} (h : Small ls) (i : Nat) : (ls.getD i []).length ≤ 1048576 := by
  rcases Nat.lt_or_ge i ls.length with hi | hi
  · have := row_le ls i hi
    unfold Small at h
    omega
  · rw [List.getD_eq_getElem?_getD, List.getElem?_eq_none hi]; simp
/-- What weighing says. -/
def SzPost (ls : List (List Int)) (w : World) (e : Ending) (w' : World) : Prop := ∃ r : Int, e = .returned (.int .i64 r) ∧ (0 ≤ r → Small ls) ∧ w = w'
theorem Small.of {ls : List (List Int)} (h1 : ls.length ≤ 1000) (h2 : ∀ i, i < ls.length → (ls.getD i []).length ≤ 1000) : Small ls := by
  have : ∀ k, k ≤ ls.length → sums ls k ≤ 1000 * k := by
    intro k
    induction k with
    | zero => intro _; rw [sums_zero]; omega
    | succ k ih => intro hk; rw [sums_succ _ _ (by omega)]; have := ih (by omega); have := h2 k (by omega); omega
  have := this ls.length (Nat.le_refl _)
  unfold Small
  omega
set_option maxHeartbeats 800000 in
theorem sameMemory_c (B B' : Nat) (a a' : Option Addr) (cap cap' : Nat) (la lb : List (List Int)) (w : World) (h : Mem w B a la) (h' : Mem w B' a' lb) (hs : Small la) (hs' : Small lb) :
    Calls Try.prog 18 #[.slice a la.length cap, .slice a' lb.length cap'] w fun e w' => e = .returned (.bool (la == lb)) ∧ ∃ n, w' = w.drewN n := by
  have H := Lib.hid h
  have H' := Lib.hid h'
  have HS := Lib.hid hs
  have HS' := Lib.hid hs'
  clear h h' hs hs'
  by_cases hl : la.length = lb.length
  · obtain ⟨n, hn⟩ : ∃ n, n = la.length := ⟨_, rfl⟩
    have hn' : lb.length = n := by omega
    have hE : Hid (la.length = n) := hn.symm
    have hE' : Hid (lb.length = n) := hn'
    have hm : n ≤ 1048576 := by have := HS.out.len; omega
    rw [hn', ← hn]
    clear hn hn' hl
    go_enter Try.func18, Try.ntmps18
    go_wp2
    go_loopw [5] (fun i wr => ∃ k q : Nat, k ≤ n ∧ i = .int .i64 k ∧ wr = w.drewN q ∧ Hid (∀ j, j < k → la.getD j [] = lb.getD j [])) (fun i _ => n - (intOf i).toNat)
    case atStart => exact ⟨0, 0, Nat.zero_le _, rfl, rfl, fun j hj => absurd hj (Nat.not_lt_zero _)⟩
    case round =>
      obtain ⟨k, q, hk, rfl, rfl, hI⟩ := hrel
      by_cases hlt : k < n
      · obtain ⟨b, off, rfl, _, ra, rc, hc1, _, hi1⟩ := H.out.at_ (i := k) (by rw [hE.out]; exact hlt)
        obtain ⟨b', off', rfl, _, ra', rc', hc2, _, hi2⟩ := H'.out.at_ (i := k) (by rw [hE'.out]; exact hlt)
        have HI1 := Lib.hid hi1.ints
        have HI2 := Lib.hid hi2.ints
        have hr1 := HS.out.row k
        have hr2 := HS'.out.row k
        clear hi1 hi2
        have HX : Hid ((la.getD k [] == lb.getD k []) = true → ∀ j, j < k + 1 → la.getD j [] = lb.getD j []) := by
          intro e j hj
          by_cases hjk : j = k
          · subst hjk; exact beq_iff_eq.1 e
          · exact hI.out j (by omega)
        have HY : Hid ((la.getD k [] == lb.getD k []) = false → (la == lb) = false) := by
          intro e
          rw [beq_eq_false_iff_ne] at e ⊢
          intro e2
          exact e (by rw [e2])
        generalize la.getD k [] = x at *
        generalize lb.getD k [] = y at *
        rcases he : (x == y)
        · have HZ := Lib.hid (HY.out he)
          go_wp2_with fail
          go_quiet ((go_at_call 19; refine quiet_joined (sameInts_c _ _ _ _ x y _ (by exact HI1.out) (by exact HI2.out) hr1 hr2)))
          go_wp2
          go_ret
          exact ⟨by rw [HZ.out]; rfl, q + nq, by simp [World.drewN_drewN]⟩
        · have HZ := Lib.hid (HX.out he)
          go_wp2_with fail
          go_quiet ((go_at_call 19; refine quiet_joined (sameInts_c _ _ _ _ x y _ (by exact HI1.out) (by exact HI2.out) hr1 hr2)))
          go_wp2
          go_roundw
          case rel => exact ⟨k + 1, q + nq, by omega, by go_num, by simp, HZ⟩
          case measure => simp [intOf]; omega
      · have : k = n := by omega
        subst this
        have HZ : Hid ((la == lb) = true) := by
          show (la == lb) = true
          rw [beq_iff_eq]
          exact eq_lists (by rw [hE.out, hE'.out]) (fun j hj => hI.out j (by rw [hE.out] at hj; exact hj))
        go_wp2
        go_ret
        exact ⟨by rw [HZ.out]; rfl, q, rfl⟩
  · have hl' : ((la.length : Int) != (lb.length : Int)) = true := by simp; omega
    have HZ : Hid ((la == lb) = false) := by
      show (la == lb) = false
      rw [beq_eq_false_iff_ne]
      intro e
      exact hl (by rw [e])
    clear hl
    go_enter Try.func18, Try.ntmps18
    go_wp2
    go_ret
    exact ⟨by rw [HZ.out]; rfl, 0, rfl⟩
set_option maxHeartbeats 400000 in
theorem l2Words_c (a : Option Addr) (cap : Nat) (l : List Int) (w : World) (h : Ints w a l) (hm : l.length ≤ 1048576) :
    Calls Try.prog 31 #[.slice a l.length cap] w fun e w' => e = .returned (.bool (wdB l)) ∧ w = w' := by
  have H := Lib.hid h
  clear h
  go_enter Try.func31, Try.ntmps31
  go_wp2
  go_loop [3] (fun i => ∃ k : Nat, k ≤ l.length ∧ i = .int .i64 k ∧ Hid (∀ j, j < k → inR (l.getD j 0) 0 9999 = true)) (fun i => l.length - (intOf i).toNat)
  case atStart => exact ⟨0, Nat.zero_le _, rfl, fun j hj => absurd hj (Nat.not_lt_zero _)⟩
  case round =>
    obtain ⟨k, hk, rfl, hI⟩ := hrel
    by_cases hlt : k < l.length
    · rcases H.out with h0 | ⟨b, off, rfl, hc⟩
      · rw [h0] at hlt; simp at hlt
      have hc1 := hc k hlt
      have HX : Hid (inR (l.getD k 0) 0 9999 = true → ∀ j, j < k + 1 → inR (l.getD j 0) 0 9999 = true) := by
        intro e j hj
        by_cases hjk : j = k
        · subst hjk; exact e
        · exact hI.out j (by omega)
      have HY : Hid (inR (l.getD k 0) 0 9999 = false → wdB l = false) := by
        intro e
        unfold wdB
        rw [all_no hlt e, Bool.and_false]
      clear hc
      generalize l.getD k 0 = x at *
      rcases he : inR x 0 9999
      · have HZ := Lib.hid (HY.out he)
        go_wp2_with (go_at_call 37; refine (l6In_c _ _ _ _).mono ?_; rintro e w' ⟨rfl, rfl⟩)
        go_ret
        exact ⟨by rw [HZ.out]; rfl, rfl⟩
      · have HZ := Lib.hid (HX.out he)
        go_wp2_with (go_at_call 37; refine (l6In_c _ _ _ _).mono ?_; rintro e w' ⟨rfl, rfl⟩)
        go_round
        case rel => exact ⟨k + 1, by omega, by go_num, HZ⟩
        case measure => simp [intOf]; omega
    · have : k = l.length := by omega
      subst this
      have HZ : Hid (wdB l = ((l.length : Int) == 4)) := by
        show wdB l = _
        unfold wdB
        rw [all_yes hI.out, Bool.and_true, Bool.eq_iff_iff, decide_eq_true_eq, beq_iff_eq]
        omega
      go_wp2
      go_ret
      exact ⟨by rw [HZ.out]; rfl, rfl⟩
set_option maxHeartbeats 400000 in
theorem specMemoryValid_c (B : Nat) (a : Option Addr) (cap : Nat) (ls : List (List Int)) (w : World) (h : Mem w B a ls) (hs : Small ls) :
    Calls Try.prog 11 #[.slice a ls.length cap] w fun e w' => e = .returned (.bool (mvB ls)) ∧ w = w' := by
  have H := Lib.hid h
  have HS := Lib.hid hs
  have hm := hs.len
  clear h hs
  go_enter Try.func11, Try.ntmps11
  go_wp2
  go_loop [3] (fun i => ∃ k : Nat, k ≤ ls.length ∧ i = .int .i64 k ∧ Hid (∀ j, j < k → wdB (ls.getD j []) = true)) (fun i => ls.length - (intOf i).toNat)
  case atStart => exact ⟨0, Nat.zero_le _, rfl, fun j hj => absurd hj (Nat.not_lt_zero _)⟩
  case round =>
    obtain ⟨k, hk, rfl, hI⟩ := hrel
    by_cases hlt : k < ls.length
    · obtain ⟨b, off, rfl, _, ra, rc, hc1, _, hi1⟩ := H.out.at_ hlt
      have HI1 := Lib.hid hi1.ints
      have hr1 := HS.out.row k
      clear hi1
      have HX : Hid (wdB (ls.getD k []) = true → ∀ j, j < k + 1 → wdB (ls.getD j []) = true) := by
        intro e j hj
        by_cases hjk : j = k
        · subst hjk; exact e
        · exact hI.out j (by omega)
      have HY : Hid (wdB (ls.getD k []) = false → mvB ls = false) := by
        intro e
        unfold mvB
        rw [allL_no hlt e, Bool.and_false]
      generalize ls.getD k [] = x at *
      rcases he : wdB x
      · have HZ := Lib.hid (HY.out he)
        go_wp2_with (go_at_call 31; refine (l2Words_c _ _ x _ HI1.out hr1).mono ?_; rintro e w' ⟨rfl, rfl⟩)
        go_ret
        exact ⟨by rw [HZ.out]; rfl, rfl⟩
      · have HZ := Lib.hid (HX.out he)
        go_wp2_with (go_at_call 31; refine (l2Words_c _ _ x _ HI1.out hr1).mono ?_; rintro e w' ⟨rfl, rfl⟩)
        go_round
        case rel => exact ⟨k + 1, by omega, by go_num, HZ⟩
        case measure => simp [intOf]; omega
    · have : k = ls.length := by omega
      subst this
      have HZ : Hid (mvB ls = ((ls.length : Int) == 12)) := by
        show mvB ls = _
        unfold mvB
        rw [allL_yes hI.out, Bool.and_true, Bool.eq_iff_iff, decide_eq_true_eq, beq_iff_eq]
        omega
      go_wp2
      go_ret
      exact ⟨by rw [HZ.out]; rfl, rfl⟩
end Go.Proofs.Ytjmlfjpocjmnpaa
