/-
  Contracts of the functions that make, mark and hold lists of lists of numbers. No conditions.
-/
import Derived.Test.YtejibbgoniecaaaMemRd
namespace Go.Proofs.Ytejibbgoniecaaa
open Go.RowKit

theorem infoRow : (Try.prog.info? 24).map (fun i => (i.zero, i.size, i.bytes)) = some (some (.slice none 0 0), 1, 24) := by kernel_rfl
theorem made_rows (n : Nat) : (madeCells #[Value.slice none 0 0] n).toList = List.replicate n nilV := by
  apply List.ext_getElem
  · simp [size_madeCells]
  · intro i h1 h2
    simp [madeCells, Nat.mod_one, nilV]
/-- A row of values of which none is a list of the call's own yet. -/
theorem Part.zero {w : World} {lo hi : Nat} {v : Value} {vs : List Value} {ls : List (List Int)} (h : w.ownsRow lo 24 1 v vs.length vs) (hv : ∀ g, v.ownBlock = some g → g < hi) : Part w lo hi v vs 0 ls :=
  ⟨h, hv, fun _ hi => absurd hi (Nat.not_lt_zero _), fun _ hi => absurd hi (Nat.not_lt_zero _), fun _ _ _ hj => absurd hj (Nat.not_lt_zero _)⟩
/-- What stands at place k of the outer row. -/
theorem Part.cell {w : World} {lo hi g n cap : Nat} {vs : List Value} {k : Nat} {ls : List (List Int)} (h : Part w lo hi (.slice (some ⟨g, 0, none⟩) n cap) vs k ls) (hn : n = vs.length) {i : Nat} (hi' : i < n) : w.cell? ⟨g, i, none⟩ = some (vs.getD i nilV) ∧ w.frozen? ⟨g, i, none⟩ = false := by
  subst hn
  have hc := h.row.cellAt i (by omega)
  rw [getD_some vs i nilV hi'] at hc
  exact ⟨hc, h.row.frozenAt i⟩

/-- What copying leaves: a list of lists in new memory. -/
def NewM (ls : List (List Int)) (w : World) (e : Ending) (w' : World) : Prop := ∃ v, e = .returned v ∧ OwnM w' w.heap.size w'.heap.size v ls ∧ w.grownBy w' none
set_option maxHeartbeats 1000000 in
theorem toIntSS_c (B : Nat) (a : Option Addr) (cap : Nat) (ls : List (List Int)) (w : World) (h : Mem w B a ls) (hB : B ≤ w.heap.size) (hs : Small ls) :
    Calls Try.prog 7 #[.slice a ls.length cap] w (NewM ls w) := by
  have H := Lib.hid h
  have HS := Lib.hid hs
  have hm := hs.len
  clear h hs
  obtain ⟨i0, hi, hz0, hz1, hz2⟩ := info_parts infoRow
  obtain ⟨n, hn⟩ : ∃ n, n = ls.length := ⟨_, rfl⟩
  have HN : Hid (ls.length = n) := hn.symm
  rw [← hn]
  rw [← hn] at hm
  clear hn
  go_enter Try.func7, Try.ntmps7
  go_wp2_with (at_make; refine wpList_make_full _ rfl _ _ 22 rfl w.heap.size 24 i0 (.slice none 0 0) 1 Try.underlying22 hi hz0 hz1 .i64 .i64 n n n rfl rfl rfl rfl ?b2 ?b3 (Nat.le_refl _) ?_)
  case b2 => rw [hz2]; omega
  case b3 => unfold maxLen; omega
  intro w1 hown hg1
  have HO : Hid (∃ (hi : Nat) (vs : List Value), hi ≤ w1.heap.size ∧ vs.length = n ∧ Part w1 w.heap.size hi (.slice (some ⟨w.heap.size, 0, none⟩) n n) vs 0 ls) := by
    have hown' := hown
    rw [made_rows] at hown'
    exact ⟨w1.heap.size, List.replicate n nilV, Nat.le_refl _, List.length_replicate, Part.zero (by rw [List.length_replicate]; exact hown') (fun g e => (hown'.lt g e).2)⟩
  clear hown hi hz0 hz1 hz2
  go_wp2_with fail
  go_loopw [4] (fun i wr => ∃ k : Nat, k ≤ n ∧ i = .int .i64 k ∧ w.grownBy wr none ∧ Hid (∃ (hi : Nat) (vs : List Value), hi ≤ wr.heap.size ∧ vs.length = n ∧ Part wr w.heap.size hi (.slice (some ⟨w.heap.size, 0, none⟩) n n) vs k ls)) (fun i _ => n - (intOf i).toNat)
  case atStart => exact ⟨0, Nat.zero_le _, rfl, hg1, HO.out⟩
  case round =>
    obtain ⟨k, hk, rfl, hg, hX⟩ := hrel
    by_cases hlt : k < n
    · obtain ⟨b, off, rfl, hb, ra, rc, hc1, _, hi1⟩ := (H.out.gnone hg hB).at_ (i := k) (by rw [HN.out]; exact hlt)
      have HI1 := Lib.hid hi1.ints
      have hr1 := HS.out.row k
      have HG := Lib.hid hg
      clear hi1 hg
      have HLS : Hid (ls.getD k [] = ls.getD k []) := rfl
      have HX : Hid (∀ (w2 : World) (r : Value), wr.grownBy w2 none → OwnI w2 wr.heap.size r (ls.getD k []) → (∃ y, w2.cell? ⟨w.heap.size, k, none⟩ = some y) ∧ w2.frozen? ⟨w.heap.size, k, none⟩ = false ∧ w.grownBy (w2.setCell ⟨w.heap.size, k, none⟩ r) none ∧
          ∃ (hi : Nat) (vs : List Value), hi ≤ (w2.setCell ⟨w.heap.size, k, none⟩ r).heap.size ∧ vs.length = n ∧ Part (w2.setCell ⟨w.heap.size, k, none⟩ r) w.heap.size hi (.slice (some ⟨w.heap.size, 0, none⟩) n n) vs (k + 1) ls) := by
        intro w2 r hg2 hr
        obtain ⟨hi, vs, h1, h2, h3⟩ := hX.out
        have h4 := (h3.gnone hg2).mono h1
        have hlo : w.heap.size ≤ wr.heap.size := HG.out.size
        have h5 := h4.store h2.symm hlt hg2.size hr hlo
        have hc := h4.cell h2.symm hlt
        refine ⟨⟨_, hc.1⟩, hc.2, none_setCell (none_trans HG.out hg2) (Nat.le_refl _) _, _, _, ?_, ?_, h5.1⟩
        · simp [World.setCell]
        · rw [List.length_set]; exact h2
      generalize ls.getD k [] = x at *
      clear HLS
      go_wp2_with fail
      refine (toIntS_c _ _ x _ HI1.out hr1).mono ?_
      rintro e w2 ⟨r, rfl, hr, hg2⟩
      obtain ⟨ra2, rc2, rfl, _, _, _⟩ := hr.intsB (fun g e => (hr.lt g e).2)
      obtain ⟨⟨y, hcy⟩, hf, hY⟩ := HX.out w2 _ hg2 hr
      have HY := Lib.hid hY
      clear hY hr hg2
      go_wp2_with fail
      go_roundw
      case rel => exact ⟨k + 1, by omega, by go_num, HY.out.1, HY.out.2⟩
      case measure => simp [intOf]; omega
    · have : k = n := by omega
      subst this
      go_wp2_with fail
      go_ret
      obtain ⟨hi, vs, h1, h2, h3⟩ := hX.out
      refine ⟨_, rfl, ⟨vs, by rw [h2, HN.out], ?_⟩, hg⟩
      rw [HN.out]
      exact h3.mono h1
/-- What marking leaves. -/
def MarkM (lo hi : Nat) (v : Value) (ls : List (List Int)) (n : Int) (w : World) (e : Ending) (w' : World) : Prop :=
  e = .returned (.int .i64 (n + sums ls ls.length)) ∧ Turned lo hi w w' ∧ ∃ xs, Shape xs ls ∧ Marked n xs.length xs ∧ OwnM w' lo hi v xs
set_option maxHeartbeats 1000000 in
theorem markIntSS_c (lo hi : Nat) (v : Value) (ls : List (List Int)) (n : Int) (w : World) (h : OwnM w lo hi v ls) (hs : Small ls) (h0 : 0 ≤ n) (h1 : n ≤ 100000000) :
    Calls Try.prog 11 #[v, .int .i64 n] w (MarkM lo hi v ls n w) := by
  rcases h.cases with ⟨rfl, rfl⟩ | ⟨g, cap, rfl, hg1, hg2, _, _, _⟩
  · clear h
    go_enter Try.func11, Try.ntmps11
    go_wp2
    go_loop [1, 5] (fun c i => c = .int .i64 n ∧ i = .int .i64 0) (fun _ _ => 0)
    case atStart => exact ⟨rfl, rfl⟩
    case round =>
      obtain ⟨rfl, rfl⟩ := hrel
      go_wp2
      go_ret
      exact ⟨by simp [sums], Turned.refl _ _ _, [], Shape.refl _, fun i hi => absurd hi (Nat.not_lt_zero _), OwnM.nil _ _ _⟩
  · obtain ⟨m, hmm⟩ : ∃ m, m = ls.length := ⟨_, rfl⟩
    have HN : Hid (ls.length = m) := hmm.symm
    have H0 : Hid (∃ (vs : List Value) (xs : List (List Int)), Shape xs ls ∧ vs.length = m ∧ Marked n 0 xs ∧ Part w lo hi (.slice (some ⟨g, 0, none⟩) m cap) vs xs.length xs) := by
      obtain ⟨vs, e1, e2⟩ := h
      exact ⟨vs, ls, Shape.refl _, by rw [e1, hmm], fun i hi => absurd hi (Nat.not_lt_zero _), by rw [hmm]; exact e2⟩
    have HS := Lib.hid hs
    have hm := hs.len
    rw [← hmm]
    rw [← hmm] at hm
    clear hmm h hs
    go_enter Try.func11, Try.ntmps11
    go_wp2
    go_loopw [1, 5] (fun c i wr => ∃ (k : Nat) (q : Int), k ≤ m ∧ i = .int .i64 k ∧ c = .int .i64 q ∧ 0 ≤ q ∧ q ≤ 200000000 ∧ Hid (q = n + sums ls k) ∧ Turned lo hi w wr ∧ Hid (∃ (vs : List Value) (xs : List (List Int)), Shape xs ls ∧ vs.length = m ∧ Marked n k xs ∧ Part wr lo hi (.slice (some ⟨g, 0, none⟩) m cap) vs xs.length xs)) (fun _ i _ => m - (intOf i).toNat)
    case atStart => exact ⟨0, n, Nat.zero_le _, rfl, rfl, h0, by omega, by show _ = _; rw [sums_zero]; simp, Turned.refl _ _ _, H0.out⟩
    case round =>
      obtain ⟨k, q, hk, rfl, rfl, hq0, hq1, hQ, hT, hX⟩ := hrel
      by_cases hlt : k < m
      · obtain ⟨vs, xs, x1, x2, x3, x4⟩ := hX.out
        have hkx : k < xs.length := by rw [x1.1, HN.out]; exact hlt
        have hkl : k < ls.length := by rw [HN.out]; exact hlt
        have hcell := x4.cell x2.symm hlt
        have hown := x4.own k hkx
        obtain ⟨ra, rc, hr, _, _, _⟩ := hown.intsB (fun g e => (x4.apart k hkx g e).1)
        have hc1 := hcell.1
        rw [hr] at hc1
        have HR := Lib.hid hr
        have HOwn : Hid (OwnI wr lo (.slice ra (xs.getD k []).length rc) (xs.getD k [])) := by show OwnI _ _ _ _; rw [← hr]; exact hown
        have hlen : (xs.getD k []).length ≤ 1048576 := by rw [x1.2 k hkl]; exact HS.out.row k
        have HSu : Hid (q + (xs.getD k []).length = n + sums ls (k + 1) ∧ q + (xs.getD k []).length ≤ 200000000) := by
          have e1 := sums_succ ls k (by rw [HN.out]; exact hlt)
          have e2 := sums_le ls (k + 1)
          have e3 := HS.out
          have e4 := hQ.out
          unfold Small at e3
          rw [x1.2 k hkl]
          constructor <;> omega
        have HX : Hid (∀ (w' : World) (e : Ending), MarkPost lo (.slice ra (xs.getD k []).length rc) (xs.getD k []) q wr e w' → e = .returned (.int .i64 (q + (xs.getD k []).length)) ∧ Turned lo hi w w' ∧ ∃ (vs : List Value) (xs : List (List Int)), Shape xs ls ∧ vs.length = m ∧ Marked n (k + 1) xs ∧ Part w' lo hi (.slice (some ⟨g, 0, none⟩) m cap) vs xs.length xs) := by
          rintro w' e ⟨rfl, hg, ys, y1, y2, y3⟩
          rw [← HR.out] at hg y3
          have hw := OwnM.wrote (by rw [x2, x1.1, HN.out]) x4 hkx hg y3
          refine ⟨rfl, hT.trans hw.2, vs, xs.set k ys, x1.set hkl (by rw [y1, x1.2 k hkl]), x2, ?_, hw.1⟩
          have hsh : Shape (xs.set k ys) xs := (Shape.refl xs).set hkx y1
          intro i hi j hj
          rw [hsh.sums i (by omega)]
          rw [getD_setL _ _ _ _ hkx] at hj ⊢
          split at hj
          · rename_i e
            subst e
            rw [if_pos rfl, y2 j (by omega), hQ.out, x1.sums i (by rw [HN.out]; omega)]
          · rename_i hne
            rw [if_neg hne]
            exact x3 i (by omega) j hj
        have HT := Lib.hid hT
        generalize xs.getD k [] = x at *
        clear hcell hown hr x4 x3 x1 hX hT
        go_wp2_with fail
        refine (markIntS_c lo _ x q _ HOwn.out hlen hq0 (by omega)).mono ?_
        intro e w' hpost
        obtain ⟨rfl, hY⟩ := HX.out w' e hpost
        have HY := Lib.hid hY
        clear hY hpost
        have hq2 := HSu.out.2
        go_wp2_with fail
        go_roundw
        case rel => exact ⟨k + 1, _, by omega, by go_num, rfl, by omega, by omega, HSu.out.1, HY.out.1, HY.out.2⟩
        case measure => simp [intOf]; omega
      · have : k = m := by omega
        subst this
        go_wp2_with fail
        go_ret
        obtain ⟨vs, xs, x1, x2, x3, x4⟩ := hX.out
        refine ⟨by rw [hQ.out, HN.out]; rfl, hT, xs, x1, by rw [x1.1, HN.out]; exact x3, vs, by rw [x2, x1.1, HN.out], ?_⟩
        have : k = xs.length := by rw [x1.1, HN.out]
        rw [x1.1, HN.out] at x4 ⊢
        exact x4
end Go.Proofs.Ytejibbgoniecaaa
