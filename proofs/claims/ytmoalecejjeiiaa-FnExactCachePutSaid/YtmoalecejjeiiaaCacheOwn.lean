/-
  Contracts of the functions that make, mark, hold and compare lists of translations. No conditions.
-/
import Derived.Test.YtmoalecejjeiiaaCacheVal
namespace Go.Proofs.Ytmoalecejjeiiaa
open Go.RowKit
attribute [local irreducible] Go.wpQuiet

theorem infoC : (Try.prog.info? 30).map (fun i => (i.zero, i.size, i.bytes)) = some (some (.agg #[.int .i64 0, .int .i64 0, .int .i64 0, .bool false]), 4, 32) := by kernel_rfl
theorem made_caches (n : Nat) : (madeCells #[Value.int .i64 0, Value.int .i64 0, Value.int .i64 0, Value.bool false] (n * 4)).toList = cellsOf (List.replicate n c0V) := by
  apply List.ext_getElem?
  intro i
  by_cases h : i < n * 4
  · have h1 : i / 4 < (List.replicate n c0V).length := by rw [List.length_replicate]; omega
    have h2 := cellsOf_get (List.replicate n c0V) (i / 4) (i % 4) h1 (by omega)
    rw [show i / 4 * 4 + i % 4 = i from by omega] at h2
    have h3 : (List.replicate n c0V).getD (i / 4) c0V = c0V := by
      rw [List.getD_eq_getElem?_getD, List.getElem?_eq_getElem h1, List.getElem_replicate]; rfl
    rw [h2, h3, Array.getElem?_toList, Array.getElem?_eq_getElem (by simp [size_madeCells]; omega)]
    have hc : i % 4 = 0 ∨ i % 4 = 1 ∨ i % 4 = 2 ∨ i % 4 = 3 := by omega
    simp only [madeCells]
    rcases hc with e | e | e | e <;> simp [e, CachedV.cells, c0V]
  · rw [List.getElem?_eq_none (by simp [size_madeCells]; omega), List.getElem?_eq_none (by rw [cellsOf_length, List.length_replicate]; omega)]
theorem cellsOf_set (xs : List CachedV) (k : Nat) (c : CachedV) (hk : k < xs.length) :
    ((((cellsOf xs).set (k * 4) (.int .i64 c.e)).set (k * 4 + 1) (.int .i64 c.p)).set (k * 4 + 2) (.int .i64 c.f)).set (k * 4 + 3) (.bool c.b) = cellsOf (xs.set k c) := by
  induction xs generalizing k with
  | nil => simp at hk
  | cons x xs ih =>
    match k with
    | 0 => simp [cellsOf, CachedV.cells]
    | k + 1 =>
      have := ih k (by simpa using hk)
      rw [show (k + 1) * 4 = k * 4 + 1 + 1 + 1 + 1 from by omega]
      simp only [cellsOf, List.flatMap_cons, CachedV.cells, List.cons_append, List.nil_append, List.set_cons_succ] at this ⊢
      rw [this]
theorem getD_setC (xs : List CachedV) (k j : Nat) (x : CachedV) (hk : k < xs.length) : (xs.set k x).getD j c0V = if j = k then x else xs.getD j c0V := by
  rw [List.getD_eq_getElem?_getD, List.getD_eq_getElem?_getD, List.getElem?_set]
  by_cases e : k = j
  · subst e; simp [hk]
  · have : ¬ j = k := fun h => e h.symm
    simp [e, this]
theorem eq_caches {la lb : List CachedV} (hl : la.length = lb.length) (h : ∀ j, j < la.length → la.getD j c0V = lb.getD j c0V) : la = lb := by
  apply List.ext_getElem hl
  intro j h1 h2
  have := h j h1
  rw [List.getD_eq_getElem?_getD, List.getD_eq_getElem?_getD, List.getElem?_eq_getElem h1, List.getElem?_eq_getElem h2] at this
  exact this
theorem row_gnone {w w' : World} {base : Nat} {e : TypeId} {size n : Nat} {v : Value} {xs : List Value} (h : w.ownsRow base e size v n xs) (hg : w.grownBy w' none) : w'.ownsRow base e size v n xs := World.ownsRow.kept h hg (by cases v.ownBlock <;> simp)
/-- A translation is stored at place k of a row of the call's own. -/
theorem stored4 {w : World} {base g n cap : Nat} {xs : List CachedV} (h : w.ownsRow base 30 4 (.slice (some ⟨g, 0, none⟩) n cap) n (cellsOf xs)) (hl : xs.length = n) (k : Nat) (hk : k < n) (c : CachedV) :
    ((((w.setCell ⟨g, k * 4, none⟩ (.int .i64 c.e)).setCell ⟨g, k * 4 + 1, none⟩ (.int .i64 c.p)).setCell ⟨g, k * 4 + 2, none⟩ (.int .i64 c.f)).setCell ⟨g, k * 4 + 3, none⟩ (.bool c.b)).ownsRow base 30 4 (.slice (some ⟨g, 0, none⟩) n cap) n (cellsOf (xs.set k c)) ∧
    w.grownBy ((((w.setCell ⟨g, k * 4, none⟩ (.int .i64 c.e)).setCell ⟨g, k * 4 + 1, none⟩ (.int .i64 c.p)).setCell ⟨g, k * 4 + 2, none⟩ (.int .i64 c.f)).setCell ⟨g, k * 4 + 3, none⟩ (.bool c.b)) (some g) := by
  have s0 := h.stored (k * 4) (.int .i64 c.e)
  have s1 := s0.1.stored (k * 4 + 1) (.int .i64 c.p)
  have s2 := s1.1.stored (k * 4 + 2) (.int .i64 c.f)
  have s3 := s2.1.stored (k * 4 + 3) (.bool c.b)
  rw [cellsOf_set xs k c (by omega)] at s3
  exact ⟨s3.1, grown_trans (grown_trans (grown_trans s0.2 s1.2) s2.2) s3.2⟩
/-- What stands at place k of a row of the call's own. -/
theorem row4 {w : World} {base g n cap : Nat} {xs : List CachedV} (h : w.ownsRow base 30 4 (.slice (some ⟨g, 0, none⟩) n cap) n (cellsOf xs)) (hl : xs.length = n) (k : Nat) (hk : k < n) :
    (w.cell? ⟨g, k * 4, none⟩ = some (.int .i64 (xs.getD k c0V).e) ∧ w.cell? ⟨g, k * 4 + 1, none⟩ = some (.int .i64 (xs.getD k c0V).p) ∧ w.cell? ⟨g, k * 4 + 2, none⟩ = some (.int .i64 (xs.getD k c0V).f) ∧ w.cell? ⟨g, k * 4 + 3, none⟩ = some (.bool (xs.getD k c0V).b)) ∧
    (w.frozen? ⟨g, k * 4, none⟩ = false ∧ w.frozen? ⟨g, k * 4 + 1, none⟩ = false ∧ w.frozen? ⟨g, k * 4 + 2, none⟩ = false ∧ w.frozen? ⟨g, k * 4 + 3, none⟩ = false) := by
  have get : ∀ j, j < 4 → w.cell? ⟨g, k * 4 + j, none⟩ = (xs.getD k c0V).cells[j]? := fun j hj => by
    rw [h.cellAt (k * 4 + j) (by omega), cellsOf_get xs k j (by omega) hj]
  exact ⟨⟨get 0 (by omega), get 1 (by omega), get 2 (by omega), get 3 (by omega)⟩, h.frozenAt _, h.frozenAt _, h.frozenAt _, h.frozenAt _⟩
theorem results_cell1 {fn : Func} {p : Tmp} {ty : TypeId} (h : fn.results = #[.cell p ty]) (tmps : Array Value) (P : Program) (w : World) :
    (results fn tmps).run P w = ((asAddr (tmps.getD p undef)).run P w).andThen fun a w₁ => (loadVar ty a).run P w₁ := by
  simp only [results, h]
  simp [Sem.run_bind, Result.andThen]
theorem szCachedS_c (a : Option Addr) (n cap : Nat) (w : World) (hm : n ≤ maxLen) : Calls Try.prog 7 #[.slice a n cap, .int .i64 1048576] w fun en w' => ∃ r : Int, en = .returned (.int .i64 r) ∧ (0 ≤ r → n ≤ 1048576) ∧ w = w' := by
  unfold maxLen at hm
  by_cases hl : 1048576 - (n : Int) < 0
  · go_enter Try.func7, Try.ntmps7
    go_wp2
    go_ret
    exact ⟨-1, rfl, fun h => absurd h (by omega), rfl⟩
  · go_enter Try.func7, Try.ntmps7
    go_wp2
    go_ret
    exact ⟨_, rfl, fun h => by omega, rfl⟩
set_option maxHeartbeats 400000 in
theorem toCached_c (e p f : Int) (b : Bool) (w : World) : Calls Try.prog 20 #[.agg #[.int .i64 e, .int .i64 p, .int .i64 f, .bool b]] w fun en w' => en = .returned (.agg #[.int .i64 e, .int .i64 p, .int .i64 f, .bool b]) ∧ w.grownBy w' none := by
  go_enter Try.func20, Try.ntmps20
  go_wp2
  (try simp only [Exit.inBlock, Exit.then])
  refine bodyPost_ret (v := .agg #[.int .i64 e, .int .i64 p, .int .i64 f, .bool b]) (by rw [results_cell1 rfl]; go_simp) rfl ?_
  exact ⟨rfl, none_alloc (none_alloc (World.grownBy_alloc _ _ _) _) _⟩
set_option maxHeartbeats 1000000 in
theorem toCachedS_c (B : Nat) (a : Option Addr) (cap : Nat) (cs : List CachedV) (w : World) (h : Caches w B a cs) (hB : B ≤ w.heap.size) (hm : cs.length ≤ 1048576) :
    Calls Try.prog 9 #[.slice a cs.length cap] w fun en w' => ∃ v, en = .returned v ∧ OwnC w' w.heap.size v cs ∧ w.grownBy w' none := by
  have H := Lib.hid h
  clear h
  obtain ⟨i0, hi, hz0, hz1, hz2⟩ := info_parts infoC
  obtain ⟨n, hn⟩ : ∃ n, n = cs.length := ⟨_, rfl⟩
  have HN : Hid (cs.length = n) := hn.symm
  rw [← hn]
  rw [← hn] at hm
  clear hn
  go_enter Try.func9, Try.ntmps9
  go_wp2_with (at_make; refine wpList_make_full _ rfl _ _ 25 rfl w.heap.size 30 i0 (.agg #[.int .i64 0, .int .i64 0, .int .i64 0, .bool false]) 4 Try.underlying25 hi hz0 hz1 .i64 .i64 n n n rfl rfl rfl rfl ?b2 ?b3 (Nat.le_refl _) ?_)
  case b2 => rw [hz2]; omega
  case b3 => unfold maxLen; omega
  intro w1 hown hg1
  have HO : Hid (∃ xs : List CachedV, xs.length = n ∧ w1.ownsRow w.heap.size 30 4 (.slice (some ⟨w.heap.size, 0, none⟩) n n) n (cellsOf xs)) := ⟨List.replicate n c0V, by simp, by rw [← made_caches]; exact hown⟩
  clear hown hi hz0 hz1 hz2
  go_wp2_with fail
  go_loopw [4] (fun i wr => ∃ k : Nat, k ≤ n ∧ i = .int .i64 k ∧ w.grownBy wr none ∧ Hid (∃ xs : List CachedV, xs.length = n ∧ (∀ j, j < k → xs.getD j c0V = cs.getD j c0V) ∧ wr.ownsRow w.heap.size 30 4 (.slice (some ⟨w.heap.size, 0, none⟩) n n) n (cellsOf xs))) (fun i _ => n - (intOf i).toNat)
  case atStart =>
    obtain ⟨xs, h1, h2⟩ := HO.out
    exact ⟨0, Nat.zero_le _, rfl, hg1, xs, h1, fun j hj => absurd hj (Nat.not_lt_zero _), h2⟩
  case round =>
    obtain ⟨k, hk, rfl, hg, hX⟩ := hrel
    by_cases hlt : k < n
    · obtain ⟨b, off, rfl, hb, c0, c1, c2, c3⟩ := H.out.at4 hB hg (i := k) (by rw [HN.out]; exact hlt)
      have HG := Lib.hid hg
      have HC : Hid (∃ c, c = cs.getD k c0V) := ⟨_, rfl⟩
      have HY : Hid (∀ (c : CachedV) (w2 : World), c = cs.getD k c0V → wr.grownBy w2 none → ∃ y : CachedV, (w2.cell? ⟨w.heap.size, k * 4, none⟩ = some (.int .i64 y.e) ∧ w2.cell? ⟨w.heap.size, k * 4 + 1, none⟩ = some (.int .i64 y.p) ∧ w2.cell? ⟨w.heap.size, k * 4 + 2, none⟩ = some (.int .i64 y.f) ∧ w2.cell? ⟨w.heap.size, k * 4 + 3, none⟩ = some (.bool y.b)) ∧
          (w2.frozen? ⟨w.heap.size, k * 4, none⟩ = false ∧ w2.frozen? ⟨w.heap.size, k * 4 + 1, none⟩ = false ∧ w2.frozen? ⟨w.heap.size, k * 4 + 2, none⟩ = false ∧ w2.frozen? ⟨w.heap.size, k * 4 + 3, none⟩ = false) ∧
          Hid (w.grownBy ((((w2.setCell ⟨w.heap.size, k * 4, none⟩ (.int .i64 c.e)).setCell ⟨w.heap.size, k * 4 + 1, none⟩ (.int .i64 c.p)).setCell ⟨w.heap.size, k * 4 + 2, none⟩ (.int .i64 c.f)).setCell ⟨w.heap.size, k * 4 + 3, none⟩ (.bool c.b)) none ∧
          ∃ xs : List CachedV, xs.length = n ∧ (∀ j, j < k + 1 → xs.getD j c0V = cs.getD j c0V) ∧ ((((w2.setCell ⟨w.heap.size, k * 4, none⟩ (.int .i64 c.e)).setCell ⟨w.heap.size, k * 4 + 1, none⟩ (.int .i64 c.p)).setCell ⟨w.heap.size, k * 4 + 2, none⟩ (.int .i64 c.f)).setCell ⟨w.heap.size, k * 4 + 3, none⟩ (.bool c.b)).ownsRow w.heap.size 30 4 (.slice (some ⟨w.heap.size, 0, none⟩) n n) n (cellsOf xs))) := by
        intro c w2 hc hg2
        obtain ⟨xs, x1, x2, x3⟩ := hX.out
        have x4 := row_gnone x3 hg2
        have r4 := row4 x4 x1 k hlt
        have s4 := stored4 x4 x1 k hlt c
        refine ⟨xs.getD k c0V, r4.1, r4.2, none_set4 (none_trans HG.out hg2) (Nat.le_refl _) _ _ _ _ _ _ _ _, xs.set k c, by simpa using x1, fun j hj => ?_, s4.1⟩
        rw [getD_setC _ _ _ _ (by omega)]
        split
        · rename_i e; rw [e]; exact hc
        · exact x2 j (by omega)
      clear hg hX
      have HK := Lib.hid (HY.out _ · rfl)
      clear HY HC
      generalize cs.getD k c0V = c at *
      go_wp2_with fail
      refine (toCached_c _ _ _ _ _).mono ?_
      rintro en w2 ⟨rfl, hg2⟩
      obtain ⟨y, ⟨y0, y1, y2, y3⟩, ⟨z0, z1, z2, z3⟩, HZ⟩ := HK.out w2 hg2
      clear hg2 HK
      go_wp2_with fail
      go_roundw
      case rel => exact ⟨k + 1, by omega, by go_num, HZ.out.1, HZ.out.2⟩
      case measure => simp [intOf]; omega
    · have : k = n := by omega
      subst this
      go_wp2_with fail
      go_ret
      obtain ⟨xs, x1, x2, x3⟩ := hX.out
      have : xs = cs := eq_caches (by rw [x1, HN.out]) (fun j hj => x2 j (by omega))
      subst this
      refine ⟨_, rfl, ?_, hg⟩
      unfold OwnC
      rw [x1]
      exact x3
set_option maxHeartbeats 400000 in
theorem eqCached_c (x y : CachedV) (w : World) : Calls Try.prog 14 #[.agg #[.int .i64 x.e, .int .i64 x.p, .int .i64 x.f, .bool x.b], .agg #[.int .i64 y.e, .int .i64 y.p, .int .i64 y.f, .bool y.b]] w fun en w' => en = .returned (.bool (decide (x = y))) ∧ w.grownBy w' none := by
  obtain ⟨e, p, f, b⟩ := x
  obtain ⟨e', p', f', b'⟩ := y
  have HG : Hid (∀ o o' : Obj, w.grownBy ((w.alloc o).alloc o') none) := fun o o' => none_alloc (World.grownBy_alloc _ _ _) _
  by_cases h0 : e = e'
  · subst h0
    by_cases h1 : p = p'
    · subst h1
      by_cases h2 : f = f'
      · subst h2
        cases b <;> cases b' <;> (go_enter Try.func14, Try.ntmps14; go_wp2; go_ret; exact ⟨by simp, HG.out _ _⟩)
      · have HH : Hid (decide ((⟨e, p, f, b⟩ : CachedV) = ⟨e, p, f', b'⟩) = false) := by
          show decide _ = _
          simp [h2]
        go_enter Try.func14, Try.ntmps14
        go_wp2
        go_ret
        exact ⟨by rw [HH.out]; rfl, HG.out _ _⟩
    · have HH : Hid (decide ((⟨e, p, f, b⟩ : CachedV) = ⟨e, p', f', b'⟩) = false) := by
        show decide _ = _
        simp [h1]
      go_enter Try.func14, Try.ntmps14
      go_wp2
      go_ret
      exact ⟨by rw [HH.out]; rfl, HG.out _ _⟩
  · have HH : Hid (decide ((⟨e, p, f, b⟩ : CachedV) = ⟨e', p', f', b'⟩) = false) := by
      show decide _ = _
      simp [h0]
    go_enter Try.func14, Try.ntmps14
    go_wp2
    go_ret
    exact ⟨by rw [HH.out]; rfl, HG.out _ _⟩
theorem eqCached_k (x y : CachedV) (w : World) (r : Bool) (h : decide (x = y) = r) : Calls Try.prog 14 #[.agg #[.int .i64 x.e, .int .i64 x.p, .int .i64 x.f, .bool x.b], .agg #[.int .i64 y.e, .int .i64 y.p, .int .i64 y.f, .bool y.b]] w fun en w' => en = .returned (.bool r) ∧ w.grownBy w' none := by
  subst h
  exact eqCached_c x y w
set_option maxHeartbeats 1000000 in
theorem eqCachedS_c (B B' : Nat) (a a' : Option Addr) (cap cap' : Nat) (la lb : List CachedV) (w : World) (h : Caches w B a la) (h' : Caches w B' a' lb) (hB : B ≤ w.heap.size) (hB' : B' ≤ w.heap.size) (_hm : la.length ≤ 1048576) (hm' : lb.length ≤ 1048576) :
    Calls Try.prog 11 #[.slice a la.length cap, .slice a' lb.length cap'] w fun en w' => en = .returned (.bool (decide (la = lb))) ∧ w.grownBy w' none := by
  have H := Lib.hid h
  have H' := Lib.hid h'
  clear h h'
  by_cases hl : la.length = lb.length
  · obtain ⟨n, hn⟩ : ∃ n, n = lb.length := ⟨_, rfl⟩
    have HN : Hid (lb.length = n) := hn.symm
    rw [← hn] at hl hm' ⊢
    rw [hl]
    have HL : Hid (la.length = n) := hl
    clear hl hn
    go_enter Try.func11, Try.ntmps11
    go_wp2
    go_loopw [5] (fun i wr => ∃ k : Nat, k ≤ n ∧ i = .int .i64 k ∧ w.grownBy wr none ∧ Hid (∀ j, j < k → la.getD j c0V = lb.getD j c0V)) (fun i _ => n - (intOf i).toNat)
    case atStart => exact ⟨0, Nat.zero_le _, rfl, grown_refl _ _, fun j hj => absurd hj (Nat.not_lt_zero _)⟩
    case round =>
      obtain ⟨k, hk, rfl, hg, hI⟩ := hrel
      by_cases hlt : k < n
      · obtain ⟨b, off, rfl, hb, c0, c1, c2, c3⟩ := H.out.at4 hB hg (i := k) (by rw [HL.out]; exact hlt)
        obtain ⟨b', off', rfl, hb', d0, d1, d2, d3⟩ := H'.out.at4 hB' hg (i := k) (by rw [HN.out]; exact hlt)
        have HG := Lib.hid hg
        have HX : Hid (la.getD k c0V = lb.getD k c0V → ∀ j, j < k + 1 → la.getD j c0V = lb.getD j c0V) := by
          intro e j hj
          by_cases hjk : j = k
          · subst hjk; exact e
          · exact hI.out j (by omega)
        have HY : Hid (la.getD k c0V ≠ lb.getD k c0V → decide (la = lb) = false) := by
          intro e
          rw [decide_eq_false]
          intro e2
          rw [e2] at e
          exact e rfl
        clear hg
        generalize la.getD k c0V = x at *
        generalize lb.getD k c0V = y at *
        go_wp2_with fail
        have g0 : ∀ p : GW wr, p.v.cell? ⟨b, off + k * 4, none⟩ = some (.int .i64 x.e) := fun p => p.h.cell c0 (by simp)
        have g1 : ∀ p : GW wr, p.v.cell? ⟨b, off + k * 4 + 1, none⟩ = some (.int .i64 x.p) := fun p => p.h.cell c1 (by simp)
        have g2 : ∀ p : GW wr, p.v.cell? ⟨b, off + k * 4 + 2, none⟩ = some (.int .i64 x.f) := fun p => p.h.cell c2 (by simp)
        have g3 : ∀ p : GW wr, p.v.cell? ⟨b, off + k * 4 + 3, none⟩ = some (.bool x.b) := fun p => p.h.cell c3 (by simp)
        have k0 : ∀ p : GW wr, p.v.cell? ⟨b', off' + k * 4, none⟩ = some (.int .i64 y.e) := fun p => p.h.cell d0 (by simp)
        have k1 : ∀ p : GW wr, p.v.cell? ⟨b', off' + k * 4 + 1, none⟩ = some (.int .i64 y.p) := fun p => p.h.cell d1 (by simp)
        have k2 : ∀ p : GW wr, p.v.cell? ⟨b', off' + k * 4 + 2, none⟩ = some (.int .i64 y.f) := fun p => p.h.cell d2 (by simp)
        have k3 : ∀ p : GW wr, p.v.cell? ⟨b', off' + k * 4 + 3, none⟩ = some (.bool y.b) := fun p => p.h.cell d3 (by simp)
        clear c0 c1 c2 c3 d0 d1 d2 d3
        by_cases hxy : x = y
        · have HZ := Lib.hid (HX.out hxy)
          have hd : decide (x = y) = true := decide_eq_true hxy
          clear hxy
          (refine wp_region_quiet_gw (by kernel_rfl) (by kernel_rfl) ?_; (repeat (quiet_step (first | (go_at_call 14; exact Calls.gw_of (eqCached_k x y _ _ hd))))); refine wpQuiet_nil ?_; intro wq hw'; obtain ⟨⟨_, hgq⟩, hw''⟩ := hw'; subst hw'')
          have HQ := Lib.hid hgq
          clear hgq
          go_wp2_with fail
          go_roundw
          case rel => exact ⟨k + 1, by omega, by go_num, none_trans HG.out HQ.out, HZ⟩
          case measure => simp [intOf]; omega
        · have HZ := Lib.hid (HY.out hxy)
          have hd : decide (x = y) = false := decide_eq_false hxy
          clear hxy
          (refine wp_region_quiet_gw (by kernel_rfl) (by kernel_rfl) ?_; (repeat (quiet_step (first | (go_at_call 14; exact Calls.gw_of (eqCached_k x y _ _ hd))))); refine wpQuiet_nil ?_; intro wq hw'; obtain ⟨⟨_, hgq⟩, hw''⟩ := hw'; subst hw'')
          have HQ := Lib.hid hgq
          clear hgq
          go_wp2_with fail
          go_ret
          exact ⟨by rw [HZ.out]; rfl, none_trans HG.out HQ.out⟩
      · have : k = n := by omega
        subst this
        have HZ : Hid (decide (la = lb) = true) := decide_eq_true (eq_caches (by rw [HL.out, HN.out]) (fun j hj => hI.out j (by rw [HL.out] at hj; exact hj)))
        go_wp2_with fail
        go_ret
        exact ⟨by rw [HZ.out]; rfl, hg⟩
  · have HZ : Hid (decide (la = lb) = false) := decide_eq_false (fun e => hl (by rw [e]))
    have hl' : ((la.length : Int) == lb.length) = false := by rw [beq_eq_false_iff_ne]; omega
    have hl2 : ¬ ((la.length : Int) = lb.length) := by omega
    go_enter Try.func11, Try.ntmps11
    go_wp2
    go_ret
    exact ⟨by rw [HZ.out]; rfl, grown_refl _ _⟩
/-- The translation that marking lays at a place. -/
def markC (n : Int) (j : Nat) : CachedV := ⟨n + 4 * j, n + 4 * j + 1, n + 4 * j + 1 + 1, (n + 4 * j + 1 + 1 + 1) % 3 == 0⟩
/-- What marking leaves: the numbers from n on. -/
def MarkC (base : Nat) (v : Value) (m : Nat) (n : Int) (w : World) (e : Ending) (w' : World) : Prop :=
  e = .returned (.int .i64 (n + 4 * m)) ∧ w.grownBy w' v.ownBlock ∧ ∃ xs : List CachedV, xs.length = m ∧ (∀ j, j < m → xs.getD j c0V = markC n j) ∧ OwnC w' base v xs
set_option maxHeartbeats 1000000 in
theorem markCachedS_c (base : Nat) (v : Value) (l : List CachedV) (n : Int) (w : World) (h : OwnC w base v l) (hm : l.length ≤ 1048576) (h0 : 0 ≤ n) (h1 : n ≤ 1000000000) :
    Calls Try.prog 17 #[v, .int .i64 n] w (MarkC base v l.length n w) := by
  rcases h.cases with ⟨rfl, rfl⟩ | ⟨g, cap, rfl, hg1, hg2, _, _⟩
  · clear h
    go_enter Try.func17, Try.ntmps17
    go_wp2
    go_loop [1, 5] (fun c i => c = .int .i64 n ∧ i = .int .i64 0) (fun _ _ => 0)
    case atStart => exact ⟨rfl, rfl⟩
    case round =>
      obtain ⟨rfl, rfl⟩ := hrel
      go_wp2
      go_ret
      exact ⟨by simp, grown_refl _ _, [], rfl, fun j hj => absurd hj (Nat.not_lt_zero _), OwnC.nil _ _⟩
  · have H := Lib.hid h
    clear h
    obtain ⟨m, hmm⟩ : ∃ m, m = l.length := ⟨_, rfl⟩
    have H0 : Hid (∃ xs : List CachedV, xs.length = m ∧ w.ownsRow base 30 4 (.slice (some ⟨g, 0, none⟩) m cap) m (cellsOf xs)) := ⟨l, hmm.symm, by have := H.out; unfold OwnC at this; rw [← hmm] at this; exact this⟩
    rw [← hmm]
    rw [← hmm] at hm
    clear hmm H
    go_enter Try.func17, Try.ntmps17
    go_wp2
    go_loopw [1, 5] (fun c i wr => ∃ (k : Nat) (q : Int), k ≤ m ∧ i = .int .i64 k ∧ c = .int .i64 q ∧ 0 ≤ q ∧ q ≤ 1100000000 ∧ Hid (q = n + 4 * k) ∧ w.grownBy wr (some g) ∧ Hid (∃ xs : List CachedV, xs.length = m ∧ (∀ j, j < k → xs.getD j c0V = markC n j) ∧ wr.ownsRow base 30 4 (.slice (some ⟨g, 0, none⟩) m cap) m (cellsOf xs))) (fun _ i _ => m - (intOf i).toNat)
    case atStart =>
      obtain ⟨xs, x1, x2⟩ := H0.out
      exact ⟨0, n, Nat.zero_le _, rfl, rfl, h0, by omega, by show _ = _; simp, grown_refl _ _, xs, x1, fun j hj => absurd hj (Nat.not_lt_zero _), x2⟩
    case round =>
      obtain ⟨k, q, hk, rfl, rfl, hq0, hq1, hQ, hg, hX⟩ := hrel
      by_cases hlt : k < m
      · have hq2 : q ≤ 1050000000 := by have := hQ.out; omega
        obtain ⟨y, ⟨y0, y1, y2, y3⟩, ⟨z0, z1, z2, z3⟩, HS⟩ : ∃ y : CachedV, (wr.cell? ⟨g, k * 4, none⟩ = some (.int .i64 y.e) ∧ wr.cell? ⟨g, k * 4 + 1, none⟩ = some (.int .i64 y.p) ∧ wr.cell? ⟨g, k * 4 + 2, none⟩ = some (.int .i64 y.f) ∧ wr.cell? ⟨g, k * 4 + 3, none⟩ = some (.bool y.b)) ∧
          (wr.frozen? ⟨g, k * 4, none⟩ = false ∧ wr.frozen? ⟨g, k * 4 + 1, none⟩ = false ∧ wr.frozen? ⟨g, k * 4 + 2, none⟩ = false ∧ wr.frozen? ⟨g, k * 4 + 3, none⟩ = false) ∧
          Hid (w.grownBy ((((wr.setCell ⟨g, k * 4, none⟩ (.int .i64 q)).setCell ⟨g, k * 4 + 1, none⟩ (.int .i64 (q + 1))).setCell ⟨g, k * 4 + 2, none⟩ (.int .i64 (q + 1 + 1))).setCell ⟨g, k * 4 + 3, none⟩ (.bool ((q + 1 + 1 + 1) % 3 == 0))) (some g) ∧
          ∃ xs : List CachedV, xs.length = m ∧ (∀ j, j < k + 1 → xs.getD j c0V = markC n j) ∧ ((((wr.setCell ⟨g, k * 4, none⟩ (.int .i64 q)).setCell ⟨g, k * 4 + 1, none⟩ (.int .i64 (q + 1))).setCell ⟨g, k * 4 + 2, none⟩ (.int .i64 (q + 1 + 1))).setCell ⟨g, k * 4 + 3, none⟩ (.bool ((q + 1 + 1 + 1) % 3 == 0))).ownsRow base 30 4 (.slice (some ⟨g, 0, none⟩) m cap) m (cellsOf xs)) := by
          obtain ⟨xs, x1, x2, x3⟩ := hX.out
          have r4 := row4 x3 x1 k hlt
          have s4 := stored4 x3 x1 k hlt ⟨q, q + 1, q + 1 + 1, (q + 1 + 1 + 1) % 3 == 0⟩
          refine ⟨xs.getD k c0V, r4.1, r4.2, grown_trans hg s4.2, xs.set k _, by simpa using x1, fun j hj => ?_, s4.1⟩
          rw [getD_setC _ _ _ _ (by omega)]
          split
          · rename_i e; rw [e]; unfold markC; rw [hQ.out]
          · exact x2 j (by omega)
        have HQ2 : Hid (q + 1 + 1 + 1 + 1 = n + 4 * ((k + 1 : Nat) : Int)) := by show _ = _; have := hQ.out; omega
        clear hX hg
        go_wp2_with fail
        exact ⟨⟨k + 1, _, by omega, by go_num, rfl, by omega, by omega, HQ2.out, HS.out.1, HS.out.2⟩, by simp [intOf]; omega⟩
      · have : k = m := by omega
        subst this
        go_wp2_with fail
        go_ret
        obtain ⟨xs, x1, x2, x3⟩ := hX.out
        refine ⟨by rw [hQ.out]; rfl, hg, xs, x1, x2, ?_⟩
        unfold OwnC
        rw [x1]
        exact x3
set_option maxHeartbeats 1000000 in
theorem heldCachedS_c (B : Nat) (a : Option Addr) (cap : Nat) (xs : List CachedV) (n : Int) (w : World) (h : Caches w B a xs) (hm : xs.length ≤ 1048576) (h0 : 0 ≤ n) (h1 : n ≤ 1000000000) (hM : ∀ j, j < xs.length → xs.getD j c0V = markC n j) :
    Calls Try.prog 18 #[.slice a xs.length cap, .int .i64 n] w fun en w' => en = .returned (.int .i64 (n + 4 * xs.length)) ∧ w = w' := by
  have H := Lib.hid h
  have HM := Lib.hid hM
  clear h hM
  obtain ⟨m, hmm⟩ : ∃ m, m = xs.length := ⟨_, rfl⟩
  have HN : Hid (xs.length = m) := hmm.symm
  rw [← hmm]
  rw [← hmm] at hm
  clear hmm
  go_enter Try.func18, Try.ntmps18
  go_wp2
  go_loop [1, 5] (fun c i => ∃ (k : Nat) (q : Int), k ≤ m ∧ i = .int .i64 k ∧ c = .int .i64 q ∧ 0 ≤ q ∧ q ≤ 1100000000 ∧ Hid (q = n + 4 * k)) (fun _ i => m - (intOf i).toNat)
  case atStart => exact ⟨0, n, Nat.zero_le _, rfl, rfl, h0, by omega, by show _ = _; simp⟩
  case round =>
    obtain ⟨k, q, hk, rfl, rfl, hq0, hq1, hQ⟩ := hrel
    by_cases hlt : k < m
    · have hq2 : q ≤ 1050000000 := by have := hQ.out; omega
      obtain ⟨b, off, rfl, hb, c0, c1, c2, c3⟩ := H.out.at_ (i := k) (by rw [HN.out]; exact hlt)
      rw [HM.out k (by rw [HN.out]; exact hlt)] at c0 c1 c2 c3
      unfold markC at c0 c1 c2 c3
      rw [← hQ.out] at c0 c1 c2 c3
      have HQ2 : Hid (q + 1 + 1 + 1 + 1 = n + 4 * ((k + 1 : Nat) : Int)) := by show _ = _; have := hQ.out; omega
      generalize hz : ((q + 1 + 1 + 1) % 3 == 0) = z at *
      have HZ := Lib.hid hz
      go_wp2
      exact ⟨⟨k + 1, _, by omega, by go_num, rfl, by omega, by omega, HQ2.out⟩, by simp [intOf]; omega⟩
    · have : k = m := by omega
      subst this
      go_wp2
      go_ret
      exact ⟨by rw [hQ.out]; rfl, rfl⟩
end Go.Proofs.Ytmoalecejjeiiaa
