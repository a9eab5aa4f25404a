/-
  Contracts of the functions that read lists of numbers. No conditions.
-/
import Derived.Test.YtjmlfjpocjmnpaaBits
import Derived.LoopTactic
namespace Go.Proofs.Ytjmlfjpocjmnpaa
open Go.RowKit

/-- The cells of a slice read as a list of numbers. -/
def Ints (w : World) (a : Option Addr) (l : List Int) : Prop :=
  l = [] ∨ ∃ b off, a = some ⟨b, off, none⟩ ∧ ∀ i, i < l.length → w.cell? ⟨b, off + i, none⟩ = some (.int .i64 (l.getD i 0))

theorem take_succ_getD (l : List Int) (k : Nat) (h : k < l.length) : l.take (k + 1) = l.take k ++ [l.getD k 0] := by
  rw [List.take_succ_eq_append_getElem h, List.getD_eq_getElem?_getD, List.getElem?_eq_getElem h]; rfl
theorem bo_take_ok {l : List Int} {k m : Nat} (hk : k < l.length) (h : bo 0 (l.take k) = some m) (h1 : inR (l.getD k 0) 0 11 = true) (h2 : hb m (l.getD k 0) = false) : bo 0 (l.take (k + 1)) = some (m + 2 ^ (l.getD k 0).toNat) := by
  rw [take_succ_getD l k hk, bo_snoc, h]
  have h1' : (decide (0 ≤ l.getD k 0) && decide (l.getD k 0 ≤ 11)) = true := h1
  have h2' : m.testBit (l.getD k 0).toNat = false := by simpa [hb] using h2
  rw [Option.bind_some, h1', h2']; rfl
theorem bo_take_no {l : List Int} {k m : Nat} (hk : k < l.length) (h : bo 0 (l.take k) = some m) (h1 : inR (l.getD k 0) 0 11 = false ∨ hb m (l.getD k 0) = true) : boO l = false ∧ boV l = 0 := by
  have hn : bo 0 (l.take (k + 1)) = none := by
    rw [take_succ_getD l k hk, bo_snoc, h, Option.bind_some]
    rcases h1 with h1 | h1
    · have h1' : (decide (0 ≤ l.getD k 0) && decide (l.getD k 0 ≤ 11)) = false := h1
      rw [h1']; rfl
    · have h2' : m.testBit (l.getD k 0).toNat = true := by simpa [hb] using h1
      rw [h2']; simp
  have hl : bo 0 l = none := by
    rw [← List.take_append_drop (k + 1) l, bo_append, hn]; rfl
  simp [boO, boV, hl]
theorem bo_all {l : List Int} {m : Nat} (h : bo 0 (l.take l.length) = some m) : boO l = true ∧ boV l = m := by
  rw [List.take_length] at h
  simp [boO, boV, h]
theorem bo_lt {l : List Int} {m : Nat} (h : bo 0 l = some m) : m < 4096 := (bo_some l 0 m (by decide) h).1

theorem or_shl (m : Nat) (f : Int) (hm : (m : Int) ≤ 4095) (h0 : 0 ≤ f) (h1 : f ≤ 11) (h2 : hb m f = false) : bits BinOp.or IntKind.i64 (m : Int) (wrap64 (2 ^ f.toNat)) = ((m + 2 ^ f.toNat : Nat) : Int) := by
  have hf : f.toNat < 12 := by omega
  have hlt : 2 ^ f.toNat < 4096 := Nat.pow_lt_pow_right (by decide) hf
  have e : ((2 : Int) ^ f.toNat) = ((2 ^ f.toNat : Nat) : Int) := by rw [Int.natCast_pow]; rfl
  have hb2 : m.testBit f.toNat = false := by simpa [hb] using h2
  have ho := add_or (n := m) (by omega) hf hb2
  rw [e, ho]
  generalize 2 ^ f.toNat = x at *
  rw [IntWalk.wrap64_in _ (by omega), (i64_bits_nat m x (by omega) (by omega)).2]

theorem eq_take {la lb : List Int} (hl : la.length = lb.length) (h : ∀ j, j < la.length → la.getD j 0 = lb.getD j 0) : la = lb := by
  apply List.ext_getElem hl
  intro j h1 h2
  have := h j h1
  rw [List.getD_eq_getElem?_getD, List.getD_eq_getElem?_getD, List.getElem?_eq_getElem h1, List.getElem?_eq_getElem h2] at this
  exact this
set_option maxHeartbeats 400000 in
theorem sameInts_c (a a' : Option Addr) (cap cap' : Nat) (la lb : List Int) (w : World) (h : Ints w a la) (h' : Ints w a' lb) (hm : la.length ≤ 1048576) (_hm' : lb.length ≤ 1048576) :
    Calls Try.prog 19 #[.slice a la.length cap, .slice a' lb.length cap'] w fun e w' => e = .returned (.bool (la == lb)) ∧ ∃ n, w' = w.drewN n := by
  have H := Lib.hid h
  have H' := Lib.hid h'
  clear h h'
  by_cases hl : la.length = lb.length
  · obtain ⟨n, hn⟩ : ∃ n, n = la.length := ⟨_, rfl⟩
    have hn' : lb.length = n := by omega
    have hE : Hid (la.length = n) := hn.symm
    have hE' : Hid (lb.length = n) := hn'
    rw [hn', ← hn]
    rw [← hn] at hm
    clear hn hn' hl _hm'
    go_enter Try.func19, Try.ntmps19
    go_wp2
    go_loopw [5] (fun i wr => ∃ k q : Nat, k ≤ n ∧ i = .int .i64 k ∧ wr = w.drewN q ∧ Hid (∀ j, j < k → la.getD j 0 = lb.getD j 0)) (fun i _ => n - (intOf i).toNat)
    case atStart => exact ⟨0, 0, Nat.zero_le _, rfl, rfl, fun j hj => absurd hj (Nat.not_lt_zero _)⟩
    case round =>
      obtain ⟨k, q, hk, rfl, rfl, hI⟩ := hrel
      by_cases hlt : k < n
      · rcases H.out with h0 | ⟨b, off, rfl, hc⟩
        · have := hE.out; rw [h0] at this; simp at this; omega
        rcases H'.out with h0 | ⟨b', off', rfl, hc'⟩
        · have := hE'.out; rw [h0] at this; simp at this; omega
        have hc1 := hc k (by rw [hE.out]; exact hlt)
        have hc2 := hc' k (by rw [hE'.out]; exact hlt)
        clear hc hc'
        have HX : Hid (∀ x y, x = la.getD k 0 → y = lb.getD k 0 → (x = y → ∀ j, j < k + 1 → la.getD j 0 = lb.getD j 0) ∧ (x ≠ y → (la == lb) = false)) := by
          intro x y hx hy
          refine ⟨fun e j hj => ?_, fun e => ?_⟩
          · by_cases hjk : j = k
            · subst hjk; rw [← hx, ← hy, e]
            · exact hI.out j (by omega)
          · rw [beq_eq_false_iff_ne]
            intro e2
            exact e (by rw [hx, hy, e2])
        obtain ⟨x, hx⟩ : ∃ x, x = la.getD k 0 := ⟨_, rfl⟩
        obtain ⟨y, hy⟩ : ∃ y, y = lb.getD k 0 := ⟨_, rfl⟩
        have HY := Lib.hid (HX.out x y hx hy)
        rw [← hx] at hc1
        rw [← hy] at hc2
        clear hx hy HX
        by_cases he : x = y
        · have hne : (x != y) = false := by simp [he]
          have HZ := Lib.hid (HY.out.1 he)
          clear he HY
          go_wp2_with fail
          go_quiet (fail)
          go_wp2
          go_roundw
          case rel => exact ⟨k + 1, q + nq, by omega, by go_num, by simp, HZ⟩
          case measure => simp [intOf]; omega
        · have hne : (x != y) = true := by simp [he]
          have HZ := Lib.hid (HY.out.2 he)
          clear he HY
          go_wp2_with fail
          go_quiet (fail)
          go_wp2
          go_ret
          exact ⟨by rw [HZ.out]; rfl, q + nq, by simp [World.drewN_drewN]⟩
      · have : k = n := by omega
        subst this
        have HZ : Hid ((la == lb) = true) := by
          show (la == lb) = true
          rw [beq_iff_eq]
          exact eq_take (by rw [hE.out, hE'.out]) (fun j hj => hI.out j (by rw [hE.out] at hj; exact hj))
        go_wp2
        go_ret
        exact ⟨by rw [HZ.out]; rfl, q, rfl⟩
  · have hl' : ((la.length : Int) != (lb.length : Int)) = true := by simp; omega
    have HZ : Hid ((la == lb) = false) := by
      show (la == lb) = false
      rw [beq_eq_false_iff_ne]
      intro e
      exact hl (by rw [e])
    clear hl
    go_enter Try.func19, Try.ntmps19
    go_wp2
    go_ret
    exact ⟨by rw [HZ.out]; rfl, 0, rfl⟩
def hasN (l : List Int) (n : Int) : Bool := decide (n ∈ l)
theorem getD_mem {l : List Int} {k : Nat} (h : k < l.length) : l.getD k 0 ∈ l := by
  rw [List.getD_eq_getElem?_getD, List.getElem?_eq_getElem h]; exact List.getElem_mem h
theorem hasN_no {l : List Int} {n : Int} (h : ∀ j, j < l.length → l.getD j 0 ≠ n) : hasN l n = false := by
  unfold hasN
  rw [decide_eq_false_iff_not]
  intro hm
  obtain ⟨j, hj, e⟩ := List.getElem_of_mem hm
  exact h j hj (by rw [List.getD_eq_getElem?_getD, List.getElem?_eq_getElem hj]; exact e)
end Go.Proofs.Ytjmlfjpocjmnpaa
