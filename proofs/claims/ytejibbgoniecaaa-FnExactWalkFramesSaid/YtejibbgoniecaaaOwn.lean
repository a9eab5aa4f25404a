/-
  Contracts of the functions that make or mark lists of numbers. No conditions.
-/
import Derived.Test.YtejibbgoniecaaaInts
import Derived.Test.YtejibbgoniecaaaLib
import Derived.OwnWalk
namespace Go.Proofs.Ytejibbgoniecaaa
open Go.RowKit

theorem infoInt : (Try.prog.info? 3).map (fun i => (i.zero, i.size, i.bytes)) = some (some (.int .i64 0), 1, 8) := by kernel_rfl

/-- A list of numbers that the call itself made: the slice value v in a block from 'base' on. -/
def OwnI (w : World) (base : Nat) (v : Value) (l : List Int) : Prop := w.ownsRow base 3 1 v l.length (l.map (Value.int .i64))

theorem OwnI.val {w : World} {base : Nat} {v : Value} {l : List Int} (h : OwnI w base v l) : ∃ a cap, v = .slice a l.length cap ∧ Ints w a l ∧ l.length ≤ maxLen := by
  rcases h.2 with ⟨rfl, h0⟩ | ⟨g, cap, cur, rfl, hb, hg, hn, hm, hs, ht⟩
  · refine ⟨none, 0, by rw [h0], .inl (List.length_eq_zero_iff.1 h0), by rw [h0]; exact Nat.zero_le _⟩
  · refine ⟨some ⟨g, 0, none⟩, cap, rfl, ?_, Nat.le_trans hn hm⟩
    refine .inr ⟨g, 0, rfl, fun i hi => ?_⟩
    have hown : w.ownsRow base 3 1 (.slice (some ⟨g, 0, none⟩) l.length cap) l.length (l.map (Value.int .i64)) := h
    have := hown.cellAt i (by omega)
    rw [Nat.zero_add, this, List.getElem?_map, List.getElem?_eq_getElem hi, List.getD_eq_getElem?_getD, List.getElem?_eq_getElem hi]
    rfl
theorem OwnI.kept {w w' : World} {base : Nat} {v : Value} {l : List Int} {row : Option Nat} (h : OwnI w base v l) (hg : w.grownBy w' row) (hne : v.ownBlock = none ∨ v.ownBlock ≠ row) : OwnI w' base v l := World.ownsRow.kept h hg hne
theorem OwnI.keptN {w w' : World} {base : Nat} {v : Value} {l : List Int} (h : OwnI w base v l) (hg : w.grownBy w' none) : OwnI w' base v l := h.kept hg (by cases v.ownBlock <;> simp)
theorem OwnI.lt {w : World} {base : Nat} {v : Value} {l : List Int} (h : OwnI w base v l) : ∀ k, v.ownBlock = some k → base ≤ k ∧ k < w.heap.size := World.ownsRow.lt h
theorem OwnI.drewN {w : World} {base : Nat} {v : Value} {l : List Int} (h : OwnI w base v l) (n : Nat) : OwnI (w.drewN n) base v l := h.keptN ⟨rfl, rfl, rfl, Nat.le_refl _, fun _ _ _ => rfl⟩
theorem OwnI.mono {w : World} {base base' : Nat} {v : Value} {l : List Int} (h : OwnI w base v l) (hb : base' ≤ base) : OwnI w base' v l := by
  refine ⟨h.1, ?_⟩
  rcases h.2 with h2 | ⟨g, cap, cur, rfl, hbb, r⟩
  · exact .inl h2
  · exact .inr ⟨g, cap, cur, rfl, by omega, r⟩

theorem getD_set (xs : List Int) (k j : Nat) (x : Int) (hk : k < xs.length) : (xs.set k x).getD j 0 = if j = k then x else xs.getD j 0 := by
  rw [List.getD_eq_getElem?_getD, List.getD_eq_getElem?_getD, List.getElem?_set]
  by_cases e : k = j
  · subst e; simp [hk]
  · have : ¬ j = k := fun h => e h.symm
    simp [e, this]
theorem made_ints (n : Nat) : (madeCells #[Value.int .i64 0] n).toList = (List.replicate n (0 : Int)).map (Value.int .i64) := by
  apply List.ext_getElem
  · simp [size_madeCells]
  · intro i h1 h2
    simp [madeCells, Nat.mod_one]

set_option maxHeartbeats 400000 in
theorem toIntS_c (a : Option Addr) (cap : Nat) (l : List Int) (w : World) (h : Ints w a l) (hm : l.length ≤ 1048576) :
    Calls Try.prog 19 #[.slice a l.length cap] w fun e w' => ∃ v, e = .returned v ∧ OwnI w' w.heap.size v l ∧ w.grownBy w' none := by
  have H := Lib.hid h
  clear h
  obtain ⟨i0, hi, hz0, hz1, hz2⟩ := info_parts infoInt
  obtain ⟨n, hn⟩ : ∃ n, n = l.length := ⟨_, rfl⟩
  have HN : Hid (l.length = n) := hn.symm
  rw [← hn]
  rw [← hn] at hm
  clear hn
  go_enter Try.func19, Try.ntmps19
  go_wp2_with (at_make; refine wpList_make_full _ rfl _ _ 24 rfl w.heap.size 3 i0 (.int .i64 0) 1 Try.underlying24 hi hz0 hz1 .i64 .i64 n n n rfl rfl rfl rfl ?b2 ?b3 (Nat.le_refl _) ?_)
  case b2 => rw [hz2]; omega
  case b3 => unfold maxLen; omega
  intro w1 hown hg1
  rw [made_ints] at hown
  have HO : Hid (∃ xs : List Int, xs.length = n ∧ w1.ownsRow w.heap.size 3 1 (.slice (some ⟨w.heap.size, 0, none⟩) n n) n (xs.map (Value.int .i64))) := ⟨List.replicate n 0, by simp, hown⟩
  clear hown hi hz0 hz1 hz2
  go_wp2_with fail
  go_loopw [4] (fun i wr => ∃ k : Nat, k ≤ n ∧ i = .int .i64 k ∧ w.grownBy wr none ∧ Hid (∃ xs : List Int, xs.length = n ∧ (∀ j, j < k → xs.getD j 0 = l.getD j 0) ∧ wr.ownsRow w.heap.size 3 1 (.slice (some ⟨w.heap.size, 0, none⟩) n n) n (xs.map (Value.int .i64)))) (fun i _ => n - (intOf i).toNat)
  case atStart =>
    obtain ⟨xs, h1, h2⟩ := HO.out
    exact ⟨0, Nat.zero_le _, rfl, hg1, xs, h1, fun j hj => absurd hj (Nat.not_lt_zero _), h2⟩
  case round =>
    obtain ⟨k, hk, rfl, hg, hX⟩ := hrel
    by_cases hlt : k < n
    · rcases H.out with h0 | ⟨b, off, rfl, hc⟩
      · have := HN.out; rw [h0] at this; simp at this; omega
      have hcw := hc k (by rw [HN.out]; exact hlt)
      have hc1 := hg.cell hcw (by simp)
      obtain ⟨xs, x1, x2, x3⟩ := hX.out
      have hf := x3.frozenAt k
      obtain ⟨y, hcl⟩ : ∃ y : Int, wr.cell? ⟨w.heap.size, k, none⟩ = some (.int .i64 y) := by
        have hcl := x3.cellAt k (by omega)
        rw [List.getElem?_map, List.getElem?_eq_getElem (by omega), Option.map_some] at hcl
        exact ⟨_, hcl⟩
      have hs := x3.stored k (.int .i64 (l.getD k 0))
      have HS : Hid (w.grownBy (wr.setCell ⟨w.heap.size, k, none⟩ (.int .i64 (l.getD k 0))) none ∧ ∃ xs : List Int, xs.length = n ∧ (∀ j, j < k + 1 → xs.getD j 0 = l.getD j 0) ∧ (wr.setCell ⟨w.heap.size, k, none⟩ (.int .i64 (l.getD k 0))).ownsRow w.heap.size 3 1 (.slice (some ⟨w.heap.size, 0, none⟩) n n) n (xs.map (Value.int .i64))) := by
        refine ⟨⟨hs.2.os.trans hg.os, hs.2.tape.trans hg.tape, hs.2.output.trans hg.output, Nat.le_trans hg.size hs.2.size, fun j hj hne => (hs.2.block j (by have := hg.size; omega) (fun e => by have := Option.some.inj e; omega)).trans (hg.block j hj hne)⟩, xs.set k (l.getD k 0), by simpa using x1, fun j hj => ?_, ?_⟩
        · rw [getD_set _ _ _ _ (by omega)]
          split
          · rename_i e; rw [e]
          · exact x2 j (by omega)
        · rw [List.map_set]; exact hs.1
      generalize l.getD k 0 = f at *
      clear hc hcw hs x1 x2 x3 hX hg
      go_wp2_with fail
      go_roundw
      case rel => exact ⟨k + 1, by omega, by go_num, HS.out.1, HS.out.2⟩
      case measure => simp [intOf]; omega
    · have : k = n := by omega
      subst this
      go_wp2_with fail
      go_ret
      obtain ⟨xs, x1, x2, x3⟩ := hX.out
      have : xs = l := eq_take (by rw [x1, HN.out]) (fun j hj => x2 j (by omega))
      subst this
      refine ⟨_, rfl, ?_, hg⟩
      unfold OwnI
      rw [x1]
      exact x3
/-- A list that the call itself made: nil, or a row in a block of its own. -/
theorem OwnI.cases {w : World} {base : Nat} {v : Value} {l : List Int} (h : OwnI w base v l) : (v = .slice none 0 0 ∧ l = []) ∨ ∃ g cap, v = .slice (some ⟨g, 0, none⟩) l.length cap ∧ base ≤ g ∧ g < w.heap.size := by
  rcases h.2 with ⟨rfl, h0⟩ | ⟨g, cap, cur, rfl, hb, hg, hn, hm, hs, ht⟩
  · exact .inl ⟨rfl, List.length_eq_zero_iff.1 h0⟩
  · exact .inr ⟨g, cap, rfl, hb, (Array.getElem?_eq_some_iff.1 hg).1⟩

/-- What marking leaves: the numbers from n on. -/
def MarkPost (base : Nat) (v : Value) (l : List Int) (n : Int) (w : World) (e : Ending) (w' : World) : Prop :=
  e = .returned (.int .i64 (n + l.length)) ∧ w.grownBy w' v.ownBlock ∧ ∃ xs : List Int, xs.length = l.length ∧ (∀ j, j < l.length → xs.getD j 0 = n + j) ∧ OwnI w' base v xs
set_option maxHeartbeats 400000 in
theorem markIntS_c (base : Nat) (v : Value) (l : List Int) (n : Int) (w : World) (h : OwnI w base v l) (hm : l.length ≤ 1048576) (h0 : 0 ≤ n) (h1 : n ≤ 1000000000) :
    Calls Try.prog 12 #[v, .int .i64 n] w (MarkPost base v l n w) := by
  rcases h.cases with ⟨rfl, rfl⟩ | ⟨g, cap, rfl, hg1, hg2⟩
  · clear h
    go_enter Try.func12, Try.ntmps12
    go_wp2
    go_loop [1, 5] (fun c i => c = .int .i64 n ∧ i = .int .i64 0) (fun _ _ => 0)
    case atStart => exact ⟨rfl, rfl⟩
    case round =>
      obtain ⟨rfl, rfl⟩ := hrel
      go_wp2
      go_ret
      exact ⟨by simp, grown_refl _ _, [], rfl, fun j hj => absurd hj (Nat.not_lt_zero _), World.ownsRow_nil _ _ _ _⟩
  · have H := Lib.hid h
    clear h
    obtain ⟨m, hmm⟩ : ∃ m, m = l.length := ⟨_, rfl⟩
    have HN : Hid (l.length = m) := hmm.symm
    have H0 : Hid (∃ xs : List Int, xs.length = m ∧ w.ownsRow base 3 1 (.slice (some ⟨g, 0, none⟩) m cap) m (xs.map (Value.int .i64))) := ⟨l, hmm.symm, by have := H.out; unfold OwnI at this; rw [← hmm] at this; exact this⟩
    rw [← hmm]
    rw [← hmm] at hm
    clear hmm H
    go_enter Try.func12, Try.ntmps12
    go_wp2
    go_loopw [1, 5] (fun c i wr => ∃ k : Nat, k ≤ m ∧ i = .int .i64 k ∧ c = .int .i64 (n + k) ∧ w.grownBy wr (some g) ∧ Hid (∃ xs : List Int, xs.length = m ∧ (∀ j, j < k → xs.getD j 0 = n + j) ∧ wr.ownsRow base 3 1 (.slice (some ⟨g, 0, none⟩) m cap) m (xs.map (Value.int .i64)))) (fun _ i _ => m - (intOf i).toNat)
    case atStart =>
      obtain ⟨xs, x1, x2⟩ := H0.out
      exact ⟨0, Nat.zero_le _, rfl, by simp, grown_refl _ _, xs, x1, fun j hj => absurd hj (Nat.not_lt_zero _), x2⟩
    case round =>
      obtain ⟨k, hk, rfl, rfl, hg, hX⟩ := hrel
      by_cases hlt : k < m
      · obtain ⟨xs, x1, x2, x3⟩ := hX.out
        have hf := x3.frozenAt k
        obtain ⟨y, hcl⟩ : ∃ y : Int, wr.cell? ⟨g, k, none⟩ = some (.int .i64 y) := by
          have hcl := x3.cellAt k (by omega)
          rw [List.getElem?_map, List.getElem?_eq_getElem (by omega), Option.map_some] at hcl
          exact ⟨_, hcl⟩
        have hs := x3.stored k (.int .i64 (n + k))
        have HS : Hid (w.grownBy (wr.setCell ⟨g, k, none⟩ (.int .i64 (n + k))) (some g) ∧ ∃ xs : List Int, xs.length = m ∧ (∀ j, j < k + 1 → xs.getD j 0 = n + j) ∧ (wr.setCell ⟨g, k, none⟩ (.int .i64 (n + k))).ownsRow base 3 1 (.slice (some ⟨g, 0, none⟩) m cap) m (xs.map (Value.int .i64))) := by
          refine ⟨grown_trans hg hs.2, xs.set k (n + k), by simpa using x1, fun j hj => ?_, ?_⟩
          · rw [getD_set _ _ _ _ (by omega)]
            split
            · rename_i e; rw [e]
            · exact x2 j (by omega)
          · rw [List.map_set]; exact hs.1
        clear hs x1 x2 x3 hX hg
        go_wp2_with fail
        go_roundw
        case rel => exact ⟨k + 1, by omega, by go_num, by go_num, HS.out.1, HS.out.2⟩
        case measure => simp [intOf]; omega
      · have : k = m := by omega
        subst this
        go_wp2_with fail
        go_ret
        obtain ⟨xs, x1, x2, x3⟩ := hX.out
        refine ⟨by rw [HN.out]; rfl, hg, xs, by rw [x1, HN.out], fun j hj => x2 j (by rw [HN.out] at hj; exact hj), ?_⟩
        unfold OwnI
        rw [x1]
        exact x3

/-- The frames below k of a number, as numbers. -/
def blp (n : Int) (k : Nat) : List Int := ((List.range k).filter fun j : Nat => bhV n (j : Int)).map fun j : Nat => (j : Int)
theorem blp_yes {n : Int} {k : Nat} (h : bhV n k = true) : blp n (k + 1) = blp n k ++ [(k : Int)] := by
  unfold blp; rw [List.range_succ, List.filter_append, List.map_append]; simp [h]
theorem blp_no {n : Int} {k : Nat} (h : bhV n k = false) : blp n (k + 1) = blp n k := by
  unfold blp; rw [List.range_succ, List.filter_append, List.map_append]; simp [h]
theorem blp_le (n : Int) (k : Nat) : (blp n k).length ≤ k := by
  unfold blp; rw [List.length_map]
  exact Nat.le_trans (List.length_filter_le _ _) (by simp)

theorem one_new (w : World) (t : TypeId) (x : Value) : ∀ (j : Nat) (u : Value), [x][j]? = some u → (w.alloc (.cells #[x] t)).cell? ((⟨w.heap.size, 0, none⟩ : Addr).add j) = some u := by
  intro j u hj
  match j, hj with
  | 0, hj =>
    rw [Addr.add_zero']
    exact cell_new w #[x] t 0 u (by simpa using hj)
theorem grown_own {w wr w1 : World} {v : Value} {o : Obj} (h : w.grownBy wr none) (hg : (wr.alloc o).grownBy w1 v.ownBlock) (hv : ∀ j, v.ownBlock = some j → w.heap.size ≤ j) : w.grownBy w1 none := by
  have h2 := grown_trans (World.grownBy_alloc wr o v.ownBlock) hg
  refine ⟨h2.os.trans h.os, h2.tape.trans h.tape, h2.output.trans h.output, Nat.le_trans h.size h2.size, fun j hj hne => (h2.block j (by have := h.size; omega) (fun e => ?_)).trans (h.block j hj hne)⟩
  have := hv j e.symm
  omega
end Go.Proofs.Ytejibbgoniecaaa
