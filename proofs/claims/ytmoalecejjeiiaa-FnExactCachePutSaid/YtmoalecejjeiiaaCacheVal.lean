/-
  Contracts of the functions that say whether a list of translations is valid, and find one. No conditions.
-/
import Derived.Test.YtmoalecejjeiiaaCacheRd
import Derived.Laws.ResultCell
namespace Go.Proofs.Ytmoalecejjeiiaa
open Go.RowKit

attribute [local irreducible] Go.wpQuiet
/-- Valid so far. -/
def ccTo (cs : List CachedV) (k : Nat) : Prop := ∀ i, i < k → okC (cs.getD i c0V) = true ∧ fnd (cs.take i) (cs.getD i c0V).e (cs.getD i c0V).p < 0
theorem ccTo_yes {cs : List CachedV} (h : ccTo cs cs.length) (hl : cs.length ≤ 4) : ccB cs = true := by
  unfold ccB
  rw [Bool.and_eq_true, decide_eq_true_eq, List.all_eq_true]
  exact ⟨hl, fun i hi => by rw [Bool.and_eq_true, decide_eq_true_eq]; exact h i (List.mem_range.1 hi)⟩
theorem ccTo_no {cs : List CachedV} {k : Nat} (hk : k < cs.length) (h : okC (cs.getD k c0V) = false ∨ 0 ≤ fnd (cs.take k) (cs.getD k c0V).e (cs.getD k c0V).p) : ccB cs = false := by
  rw [← Bool.not_eq_true]
  intro h2
  unfold ccB at h2
  rw [Bool.and_eq_true, List.all_eq_true] at h2
  have h3 := h2.2 k (List.mem_range.2 hk)
  rw [Bool.and_eq_true, decide_eq_true_eq] at h3
  rcases h with h | h
  · rw [h3.1] at h; cases h
  · omega
theorem ccTo_long {cs : List CachedV} (h : 4 < cs.length) : ccB cs = false := by
  unfold ccB
  rw [decide_eq_false (by omega), Bool.false_and]
theorem ccTo_succ {cs : List CachedV} {k : Nat} (h : ccTo cs k) (h1 : okC (cs.getD k c0V) = true) (h2 : fnd (cs.take k) (cs.getD k c0V).e (cs.getD k c0V).p < 0) : ccTo cs (k + 1) := by
  intro i hi
  by_cases e : i = k
  · subst e; exact ⟨h1, h2⟩
  · exact h i (by omega)
/-- A part of a list from its beginning. -/
theorem Caches.take {w : World} {B : Nat} {a : Option Addr} {cs : List CachedV} (h : Caches w B a cs) (k : Nat) : Caches w B a (cs.take k) := by
  rcases h with h | ⟨b, off, ha, hb, hc⟩
  · subst h; exact .inl (by simp)
  · refine .inr ⟨b, off, ha, hb, fun i hi => ?_⟩
    rw [List.length_take] at hi
    have e : (cs.take k).getD i c0V = cs.getD i c0V := by
      rw [List.getD_eq_getElem?_getD, List.getD_eq_getElem?_getD, List.getElem?_take, if_pos (by omega)]
    rw [e]
    exact hc i (by omega)
theorem isCached_k (c : CachedV) (w : World) (r : Bool) (h : okC c = r) : Calls Try.prog 24 #[.agg #[.int .i64 c.e, .int .i64 c.p, .int .i64 c.f, .bool c.b]] w fun en w' => en = .returned (.bool r) ∧ w.grownBy w' none := by
  subst h
  exact isCached_c _ _ _ _ _
theorem cached_k (B : Nat) (a : Option Addr) (n cap : Nat) (cs : List CachedV) (e p r : Int) (w : World) (h : Caches w B a cs) (hB : B ≤ w.heap.size) (hm : cs.length ≤ 1048576) (hn : cs.length = n) (hr : fnd cs e p = r) :
    Calls Try.prog 25 #[.slice a n cap, .int .i64 e, .int .i64 p] w fun en w' => en = .returned (.int .i64 r) ∧ w.grownBy w' none := by
  subst hn hr
  exact cached_c B a cap cs e p w h hB hm
set_option maxHeartbeats 1000000 in
theorem implCacheValid_c (B : Nat) (a : Option Addr) (cap : Nat) (cs : List CachedV) (w : World) (h : Caches w B a cs) (hB : B ≤ w.heap.size) (hm : cs.length ≤ 1048576) (hcap : cs.length ≤ cap) :
    Calls Try.prog 10 #[.slice a cs.length cap] w fun en w' => en = .returned (.bool (ccB cs)) ∧ w.grownBy w' none := by
  have H := Lib.hid h
  clear h
  by_cases h4 : 4 < cs.length
  · have HZ : Hid (ccB cs = false) := ccTo_long h4
    have h4' : (4 : Int) < cs.length := by omega
    go_enter Try.func10, Try.ntmps10
    go_wp2
    go_ret
    exact ⟨by rw [HZ.out]; rfl, grown_refl _ _⟩
  have h4' : ¬ (4 : Int) < cs.length := by omega
  go_enter Try.func10, Try.ntmps10
  go_wp2
  go_loopw [10] (fun i wr => ∃ k : Nat, k ≤ cs.length ∧ i = .int .i64 k ∧ w.grownBy wr none ∧ Hid (ccTo cs k)) (fun i _ => cs.length - (intOf i).toNat)
  case atStart => exact ⟨0, Nat.zero_le _, rfl, grown_refl _ _, fun j hj => absurd hj (Nat.not_lt_zero _)⟩
  case round =>
    obtain ⟨k, hk, rfl, hg, hI⟩ := hrel
    by_cases hlt : k < cs.length
    · obtain ⟨b, off, rfl, hb, c0, c1, c2, c3⟩ := H.out.at4 hB hg hlt
      have HG := Lib.hid hg
      have HY := Lib.hid (fun e => ccTo_no hlt (.inl e))
      have HY2 := Lib.hid (fun e => ccTo_no hlt (.inr e))
      have HX := Lib.hid (ccTo_succ hI.out)
      have HT := Lib.hid ((H.out.gnone hg hB).take k)
      have HL : Hid ((cs.take k).length = k) := by show _ = _; rw [List.length_take]; omega
      have hsz := hg.size
      have hkc : k ≤ cap := by omega
      clear hg
      generalize cs.getD k c0V = c at *
      go_wp2_with fail
      generalize hW : wr.alloc _ = W
      have HW : Hid (wr.grownBy W none) := by show World.grownBy _ _ _; rw [← hW]; exact World.grownBy_alloc _ _ _
      have g0 : ∀ p : GW W, p.v.cell? ⟨wr.heap.size, 0, none⟩ = some (.int .i64 c.e) := fun p => p.h.cell (by rw [← hW]; exact cell_new _ _ _ _ _ rfl) (by simp)
      have g1 : ∀ p : GW W, p.v.cell? ⟨wr.heap.size, 1, none⟩ = some (.int .i64 c.p) := fun p => p.h.cell (by rw [← hW]; exact cell_new _ _ _ _ _ rfl) (by simp)
      have g2 : ∀ p : GW W, p.v.cell? ⟨wr.heap.size, 2, none⟩ = some (.int .i64 c.f) := fun p => p.h.cell (by rw [← hW]; exact cell_new _ _ _ _ _ rfl) (by simp)
      have g3 : ∀ p : GW W, p.v.cell? ⟨wr.heap.size, 3, none⟩ = some (.bool c.b) := fun p => p.h.cell (by rw [← hW]; exact cell_new _ _ _ _ _ rfl) (by simp)
      have HP : Hid (∀ p : GW W, Caches p.v B (some ⟨b, off, none⟩) (cs.take k) ∧ B ≤ p.v.heap.size) := fun p => by
        have hgp := none_trans HW.out p.h
        exact ⟨HT.out.gnone hgp (by omega), by have := hgp.size; omega⟩
      clear hW c0 c1 c2 c3
      rcases h1 : okC c
      · have HZ := Lib.hid (HY.out h1)
        (refine wp_region_quiet_gw (by kernel_rfl) (by kernel_rfl) ?_; (repeat (quiet_step (first | (go_at_call 24; exact Calls.gw_of (isCached_k c _ _ h1))))); refine wpQuiet_nil ?_; intro wq hw'; obtain ⟨⟨_, hgq⟩, hw''⟩ := hw'; subst hw'')
        have HQ := Lib.hid hgq
        clear hgq
        go_wp2_with fail
        go_ret
        exact ⟨by rw [HZ.out]; rfl, none_trans (none_trans HG.out HW.out) HQ.out⟩
      · rcases Int.lt_or_le (fnd (cs.take k) c.e c.p) 0 with h2 | h2
        · have HZ := Lib.hid (HX.out h1 h2)
          have h2' : ¬ (0 ≤ fnd (cs.take k) c.e c.p) := by omega
          generalize hf : fnd (cs.take k) c.e c.p = fv at *
          (refine wp_region_quiet_gw (by kernel_rfl) (by kernel_rfl) ?_; (repeat (quiet_step (first | (go_at_call 24; exact Calls.gw_of (isCached_k c _ _ h1)) | (go_at_call 25; exact Calls.gw_of (cached_k B _ _ _ _ _ _ _ _ (HP.out _).1 (HP.out _).2 (by rw [HL.out]; omega) HL.out hf))))); refine wpQuiet_nil ?_; intro wq hw'; obtain ⟨⟨_, hgq⟩, hw''⟩ := hw'; subst hw'')
          have HQ := Lib.hid hgq
          clear hgq
          go_wp2_with fail
          go_roundw
          case rel => exact ⟨k + 1, by omega, by go_num, none_trans (none_trans HG.out HW.out) HQ.out, HZ⟩
          case measure => simp [intOf]; omega
        · have HZ := Lib.hid (HY2.out h2)
          generalize hf : fnd (cs.take k) c.e c.p = fv at *
          (refine wp_region_quiet_gw (by kernel_rfl) (by kernel_rfl) ?_; (repeat (quiet_step (first | (go_at_call 24; exact Calls.gw_of (isCached_k c _ _ h1)) | (go_at_call 25; exact Calls.gw_of (cached_k B _ _ _ _ _ _ _ _ (HP.out _).1 (HP.out _).2 (by rw [HL.out]; omega) HL.out hf))))); refine wpQuiet_nil ?_; intro wq hw'; obtain ⟨⟨_, hgq⟩, hw''⟩ := hw'; subst hw'')
          have HQ := Lib.hid hgq
          clear hgq
          go_wp2_with fail
          go_ret
          exact ⟨by rw [HZ.out]; rfl, none_trans (none_trans HG.out HW.out) HQ.out⟩
    · have : k = cs.length := by omega
      subst this
      have HZ : Hid (ccB cs = true) := ccTo_yes hI.out (by omega)
      go_wp2_with fail
      go_ret
      exact ⟨by rw [HZ.out]; rfl, hg⟩
theorem l4Cached_k (c : CachedV) (w : World) (r : Bool) (h : okC c = r) : Calls Try.prog 22 #[.agg #[.int .i64 c.e, .int .i64 c.p, .int .i64 c.f, .bool c.b]] w fun en w' => en = .returned (.bool r) ∧ w.grownBy w' none := by
  subst h
  exact l4Cached_c _ _ _ _ _
theorem l4Find_k (B : Nat) (a : Option Addr) (n cap : Nat) (cs : List CachedV) (e p r : Int) (w : World) (h : Caches w B a cs) (hm : cs.length ≤ 1048576) (hn : cs.length = n) (hr : fnd cs e p = r) :
    Calls Try.prog 23 #[.slice a n cap, .int .i64 e, .int .i64 p] w fun en w' => en = .returned (.int .i64 r) ∧ w = w' := by
  subst hn hr
  exact l4Find_c a B cap cs e p w h hm
set_option maxHeartbeats 1000000 in
theorem specCacheValid_c (B : Nat) (a : Option Addr) (cap : Nat) (cs : List CachedV) (w : World) (h : Caches w B a cs) (hB : B ≤ w.heap.size) (hm : cs.length ≤ 1048576) :
    Calls Try.prog 8 #[.slice a cs.length cap] w fun en w' => en = .returned (.bool (ccB cs)) ∧ w.grownBy w' none := by
  have H := Lib.hid h
  clear h
  go_enter Try.func8, Try.ntmps8
  go_wp2
  go_loopw [3] (fun i wr => ∃ k : Nat, k ≤ cs.length ∧ i = .int .i64 k ∧ w.grownBy wr none ∧ Hid (ccTo cs k)) (fun i _ => cs.length - (intOf i).toNat)
  case atStart => exact ⟨0, Nat.zero_le _, rfl, grown_refl _ _, fun j hj => absurd hj (Nat.not_lt_zero _)⟩
  case round =>
    obtain ⟨k, hk, rfl, hg, hI⟩ := hrel
    by_cases hlt : k < cs.length
    · obtain ⟨b, off, rfl, hb, c0, c1, c2, c3⟩ := H.out.at4 hB hg hlt
      have HG := Lib.hid hg
      have HY := Lib.hid (fun e => ccTo_no hlt (.inl e))
      have HY2 := Lib.hid (fun e => ccTo_no hlt (.inr e))
      have HX := Lib.hid (ccTo_succ hI.out)
      have HF := Lib.hid (fnd_take hlt)
      have HP : Hid (∀ p : GW wr, Caches p.v B (some ⟨b, off, none⟩) cs) := fun p => H.out.gnone (none_trans hg p.h) hB
      clear hg
      generalize cs.getD k c0V = c at *
      go_wp2_with fail
      have g0 : ∀ p : GW wr, p.v.cell? ⟨b, off + k * 4, none⟩ = some (.int .i64 c.e) := fun p => p.h.cell c0 (by simp)
      have g1 : ∀ p : GW wr, p.v.cell? ⟨b, off + k * 4 + 1, none⟩ = some (.int .i64 c.p) := fun p => p.h.cell c1 (by simp)
      have g2 : ∀ p : GW wr, p.v.cell? ⟨b, off + k * 4 + 2, none⟩ = some (.int .i64 c.f) := fun p => p.h.cell c2 (by simp)
      have g3 : ∀ p : GW wr, p.v.cell? ⟨b, off + k * 4 + 3, none⟩ = some (.bool c.b) := fun p => p.h.cell c3 (by simp)
      clear c0 c1 c2 c3
      rcases h1 : okC c
      · have HZ := Lib.hid (HY.out h1)
        (refine wp_region_quiet_gw (by kernel_rfl) (by kernel_rfl) ?_; (repeat (quiet_step (first | (go_at_call 22; exact Calls.gw_of (l4Cached_k c _ _ h1))))); refine wpQuiet_nil ?_; intro wq hw'; obtain ⟨⟨_, hgq⟩, hw''⟩ := hw'; subst hw'')
        have HQ := Lib.hid hgq
        clear hgq
        go_wp2_with fail
        go_ret
        exact ⟨by rw [HZ.out]; rfl, none_trans HG.out HQ.out⟩
      · rcases Int.lt_or_le (fnd cs c.e c.p) k with h2 | h2
        · have HZ := Lib.hid (HY2.out (HF.out.1 h2))
          generalize hf : fnd cs c.e c.p = fv at *
          (refine wp_region_quiet_gw (by kernel_rfl) (by kernel_rfl) ?_; (repeat (quiet_step (first | (go_at_call 22; exact Calls.gw_of (l4Cached_k c _ _ h1)) | (go_at_call 23; exact Calls.gw_same (l4Find_k B _ _ _ _ _ _ _ _ (HP.out _) hm rfl hf))))); refine wpQuiet_nil ?_; intro wq hw'; obtain ⟨⟨_, hgq⟩, hw''⟩ := hw'; subst hw'')
          have HQ := Lib.hid hgq
          clear hgq
          go_wp2_with fail
          go_ret
          exact ⟨by rw [HZ.out]; rfl, none_trans HG.out HQ.out⟩
        · have HZ := Lib.hid (HX.out h1 (by
            rcases Int.lt_or_le (fnd (cs.take k) c.e c.p) 0 with h | h
            · exact h
            · have := HF.out.2 h; omega))
          have h2' : ¬ (fnd cs c.e c.p < k) := by omega
          generalize hf : fnd cs c.e c.p = fv at *
          (refine wp_region_quiet_gw (by kernel_rfl) (by kernel_rfl) ?_; (repeat (quiet_step (first | (go_at_call 22; exact Calls.gw_of (l4Cached_k c _ _ h1)) | (go_at_call 23; exact Calls.gw_same (l4Find_k B _ _ _ _ _ _ _ _ (HP.out _) hm rfl hf))))); refine wpQuiet_nil ?_; intro wq hw'; obtain ⟨⟨_, hgq⟩, hw''⟩ := hw'; subst hw'')
          have HQ := Lib.hid hgq
          clear hgq
          go_wp2_with fail
          go_roundw
          case rel => exact ⟨k + 1, by omega, by go_num, none_trans HG.out HQ.out, HZ⟩
          case measure => simp [intOf]; omega
    · have : k = cs.length := by omega
      subst this
      have HZ : Hid (ccB cs = decide ((cs.length : Int) ≤ 4)) := by
        show _ = _
        by_cases h4 : cs.length ≤ 4
        · rw [ccTo_yes hI.out h4, decide_eq_true (by omega)]
        · rw [ccTo_long (by omega), decide_eq_false (by omega)]
      go_wp2_with fail
      go_ret
      exact ⟨by rw [HZ.out]; rfl, hg⟩
theorem cf_none {cs : List CachedV} {e p : Int} (h : cfB cs e p = false) : cfV cs e p = c0V := by unfold cfV; rw [h]; rfl
theorem cf_at {cs : List CachedV} {e p : Int} {k : Nat} (h1 : ccB cs = true) (h2 : fnd cs e p = k) : cfB cs e p = true ∧ cfV cs e p = cs.getD k c0V := by
  have h : cfB cs e p = true := by unfold cfB; rw [h1, h2, decide_eq_true (by omega)]; rfl
  refine ⟨h, ?_⟩
  unfold cfV
  rw [h, h2]; rfl
theorem cf_bad {cs : List CachedV} {e p : Int} (h : ccB cs = false ∨ fnd cs e p < 0) : cfB cs e p = false ∧ cfV cs e p = c0V := by
  have : cfB cs e p = false := by
    unfold cfB
    rcases h with h | h
    · rw [h]; rfl
    · rw [decide_eq_false (by omega), Bool.and_false]
  exact ⟨this, cf_none this⟩
theorem implCacheValid_k (B : Nat) (a : Option Addr) (cap : Nat) (cs : List CachedV) (w : World) (r : Bool) (h : Caches w B a cs) (hB : B ≤ w.heap.size) (hm : cs.length ≤ 1048576) (hcap : cs.length ≤ cap) (hr : ccB cs = r) :
    Calls Try.prog 10 #[.slice a cs.length cap] w fun en w' => en = .returned (.bool r) ∧ w.grownBy w' none := by
  subst hr
  exact implCacheValid_c B a cap cs w h hB hm hcap
theorem frozen_new {w w1 : World} {cs : Array Value} {t : TypeId} (hg : (w.alloc (.cells cs t)).grownBy w1 none) (j : Nat) : w1.frozen? ⟨w.heap.size, j, none⟩ = false := by
  have hb : w1.heap[w.heap.size]? = some (.cells cs t) := (hg.block _ (by simp) (by simp)).trans (heap_alloc_new w _)
  unfold World.frozen?
  rw [hb]
  simp
/-- Four cells of a block that the call made are written. -/
theorem none_set4 {a b : World} (h : a.grownBy b none) {B : Nat} (hB : a.heap.size ≤ B) (o0 o1 o2 o3 : Nat) (u0 u1 u2 u3 : Value) : a.grownBy ((((b.setCell ⟨B, o0, none⟩ u0).setCell ⟨B, o1, none⟩ u1).setCell ⟨B, o2, none⟩ u2).setCell ⟨B, o3, none⟩ u3) none :=
  none_setCell (none_setCell (none_setCell (none_setCell h hB _) hB _) hB _) hB _
/-- What finding answers. -/
def CFound (cs : List CachedV) (e p : Int) (w : World) (en : Ending) (w' : World) : Prop :=
  en = .returned (.tuple #[.agg #[.int .i64 (cfV cs e p).e, .int .i64 (cfV cs e p).p, .int .i64 (cfV cs e p).f, .bool (cfV cs e p).b], .bool (cfB cs e p)]) ∧ w.grownBy w' none
set_option maxHeartbeats 1000000 in
theorem implCacheFind_c (B : Nat) (a : Option Addr) (cap : Nat) (cs : List CachedV) (e p : Int) (w : World) (h : Caches w B a cs) (hB : B ≤ w.heap.size) (hm : cs.length ≤ 1048576) (hcap : cs.length ≤ cap) :
    Calls Try.prog 13 #[.slice a cs.length cap, .int .i64 e, .int .i64 p] w (CFound cs e p w) := by
  have H := Lib.hid h
  clear h
  rcases h1 : ccB cs
  · have HZ := Lib.hid (cf_bad (e := e) (p := p) (.inl h1))
    go_enter Try.func13, Try.ntmps13
    go_wp2_with fail
    refine (implCacheValid_k B a cap cs _ false (H.out.gnone (World.grownBy_alloc _ _ _) hB) (by simp; omega) hm hcap h1).mono ?_
    rintro en w1 ⟨rfl, hg⟩
    have g0 : w1.cell? ⟨w.heap.size, 0, none⟩ = some (.int .i64 0) := hg.cell (cell_new _ _ _ _ _ rfl) (by simp)
    have g1 : w1.cell? ⟨w.heap.size, 1, none⟩ = some (.int .i64 0) := hg.cell (cell_new _ _ _ _ _ rfl) (by simp)
    have g2 : w1.cell? ⟨w.heap.size, 2, none⟩ = some (.int .i64 0) := hg.cell (cell_new _ _ _ _ _ rfl) (by simp)
    have g3 : w1.cell? ⟨w.heap.size, 3, none⟩ = some (.bool false) := hg.cell (cell_new _ _ _ _ _ rfl) (by simp)
    have f0 := frozen_new hg 0
    have f1 := frozen_new hg 1
    have f2 := frozen_new hg 2
    have f3 := frozen_new hg 3
    have HG := Lib.hid (none_trans (World.grownBy_alloc w _ none) hg)
    clear hg
    go_wp2_with fail
    (try simp only [Exit.inBlock, Exit.then])
    refine bodyPost_ret (v := .tuple #[.agg #[.int .i64 0, .int .i64 0, .int .i64 0, .bool false], .bool false]) (by rw [results_cell_tmp rfl]; go_simp) rfl ?_
    exact ⟨by rw [HZ.out.1, HZ.out.2]; rfl, none_set4 HG.out (Nat.le_refl _) _ _ _ _ _ _ _ _⟩
  · rcases fnd_cases cs e p with ⟨h2, _⟩ | ⟨k, hk, h2, _, _⟩
    · have HZ := Lib.hid (cf_bad (cs := cs) (e := e) (p := p) (.inr (by omega)))
      go_enter Try.func13, Try.ntmps13
      go_wp2_with fail
      refine (implCacheValid_k B a cap cs _ true (H.out.gnone (World.grownBy_alloc _ _ _) hB) (by simp; omega) hm hcap h1).mono ?_
      rintro en w1 ⟨rfl, hg⟩
      have HW := Lib.hid hg
      clear hg
      go_wp2_with fail
      refine (cached_k B a _ cap cs e p (-1) _ (H.out.gnone (none_trans (World.grownBy_alloc _ _ _) HW.out) hB) (by have := (none_trans (World.grownBy_alloc _ _ none) HW.out).size; omega) hm rfl h2).mono ?_
      rintro en w2 ⟨rfl, hg⟩
      have hgx := none_trans HW.out hg
      clear hg
      have g0 : w2.cell? ⟨w.heap.size, 0, none⟩ = some (.int .i64 0) := hgx.cell (cell_new _ _ _ _ _ rfl) (by simp)
      have g1 : w2.cell? ⟨w.heap.size, 1, none⟩ = some (.int .i64 0) := hgx.cell (cell_new _ _ _ _ _ rfl) (by simp)
      have g2 : w2.cell? ⟨w.heap.size, 2, none⟩ = some (.int .i64 0) := hgx.cell (cell_new _ _ _ _ _ rfl) (by simp)
      have g3 : w2.cell? ⟨w.heap.size, 3, none⟩ = some (.bool false) := hgx.cell (cell_new _ _ _ _ _ rfl) (by simp)
      have f0 := frozen_new hgx 0
      have f1 := frozen_new hgx 1
      have f2 := frozen_new hgx 2
      have f3 := frozen_new hgx 3
      have HG := Lib.hid (none_trans (World.grownBy_alloc w _ none) hgx)
      clear hgx
      go_wp2_with fail
      (try simp only [Exit.inBlock, Exit.then])
      refine bodyPost_ret (v := .tuple #[.agg #[.int .i64 0, .int .i64 0, .int .i64 0, .bool false], .bool false]) (by rw [results_cell_tmp rfl]; go_simp) rfl ?_
      exact ⟨by rw [HZ.out.1, HZ.out.2]; rfl, none_set4 HG.out (Nat.le_refl _) _ _ _ _ _ _ _ _⟩
    · have HZ := Lib.hid (cf_at (cs := cs) (e := e) (p := p) h1 h2)
      obtain ⟨b, off, rfl, hb, _⟩ := H.out.at_ hk
      go_enter Try.func13, Try.ntmps13
      go_wp2_with fail
      refine (implCacheValid_k B _ cap cs _ true (H.out.gnone (World.grownBy_alloc _ _ _) hB) (by simp; omega) hm hcap h1).mono ?_
      rintro en w1 ⟨rfl, hg⟩
      have HW := Lib.hid hg
      clear hg
      go_wp2_with fail
      refine (cached_k B _ _ cap cs e p k _ (H.out.gnone (none_trans (World.grownBy_alloc _ _ _) HW.out) hB) (by have := (none_trans (World.grownBy_alloc _ _ none) HW.out).size; omega) hm rfl h2).mono ?_
      rintro en w2 ⟨rfl, hg⟩
      have hgx := none_trans HW.out hg
      clear hg
      have g0 : w2.cell? ⟨w.heap.size, 0, none⟩ = some (.int .i64 0) := hgx.cell (cell_new _ _ _ _ _ rfl) (by simp)
      have g1 : w2.cell? ⟨w.heap.size, 1, none⟩ = some (.int .i64 0) := hgx.cell (cell_new _ _ _ _ _ rfl) (by simp)
      have g2 : w2.cell? ⟨w.heap.size, 2, none⟩ = some (.int .i64 0) := hgx.cell (cell_new _ _ _ _ _ rfl) (by simp)
      have g3 : w2.cell? ⟨w.heap.size, 3, none⟩ = some (.bool false) := hgx.cell (cell_new _ _ _ _ _ rfl) (by simp)
      have f0 := frozen_new hgx 0
      have f1 := frozen_new hgx 1
      have f2 := frozen_new hgx 2
      have f3 := frozen_new hgx 3
      have HG := Lib.hid (none_trans (World.grownBy_alloc w _ none) hgx)
      clear hgx
      obtain ⟨_, _, e0, _, c0, c1, c2, c3⟩ := H.out.at4 hB HG.out hk
      simp only [Option.some.injEq, Addr.mk.injEq, and_true] at e0
      obtain ⟨rfl, rfl⟩ := e0
      generalize cs.getD k c0V = c at *
      go_wp2_with fail
      (try simp only [Exit.inBlock, Exit.then])
      refine bodyPost_ret (v := .tuple #[.agg #[.int .i64 c.e, .int .i64 c.p, .int .i64 c.f, .bool c.b], .bool true]) (by rw [results_cell_tmp rfl]; go_simp) rfl ?_
      exact ⟨by rw [HZ.out.1, HZ.out.2], none_set4 HG.out (Nat.le_refl _) _ _ _ _ _ _ _ _⟩
theorem specCacheValid_k (B : Nat) (a : Option Addr) (cap : Nat) (cs : List CachedV) (w : World) (r : Bool) (h : Caches w B a cs) (hB : B ≤ w.heap.size) (hm : cs.length ≤ 1048576) (hr : ccB cs = r) :
    Calls Try.prog 8 #[.slice a cs.length cap] w fun en w' => en = .returned (.bool r) ∧ w.grownBy w' none := by
  subst hr
  exact specCacheValid_c B a cap cs w h hB hm
set_option maxHeartbeats 1000000 in
theorem specCacheFind_c (B : Nat) (a : Option Addr) (cap : Nat) (cs : List CachedV) (e p : Int) (w : World) (h : Caches w B a cs) (hB : B ≤ w.heap.size) (hm : cs.length ≤ 1048576) :
    Calls Try.prog 12 #[.slice a cs.length cap, .int .i64 e, .int .i64 p] w (CFound cs e p w) := by
  have H := Lib.hid h
  clear h
  rcases fnd_cases cs e p with ⟨h2, _⟩ | ⟨k, hk, h2, _, _⟩
  · have HZ := Lib.hid (cf_bad (cs := cs) (e := e) (p := p) (.inr (by omega)))
    rcases h1 : ccB cs
    · go_enter Try.func12, Try.ntmps12
      go_wp2_with fail
      refine (l4Find_k B _ _ cap cs e p (-1) _ (H.out.gnone (World.grownBy_alloc _ _ _) hB) hm rfl h2).mono ?_
      rintro en w' ⟨rfl, rfl⟩
      go_wp2_with fail
      refine (specCacheValid_k B _ cap cs _ false (H.out.gnone (World.grownBy_alloc _ _ _) hB) (by simp; omega) hm h1).mono ?_
      rintro en w1 ⟨rfl, hg⟩
      have g0 : w1.cell? ⟨w.heap.size, 0, none⟩ = some (.int .i64 0) := hg.cell (cell_new _ _ _ _ _ rfl) (by simp)
      have g1 : w1.cell? ⟨w.heap.size, 1, none⟩ = some (.int .i64 0) := hg.cell (cell_new _ _ _ _ _ rfl) (by simp)
      have g2 : w1.cell? ⟨w.heap.size, 2, none⟩ = some (.int .i64 0) := hg.cell (cell_new _ _ _ _ _ rfl) (by simp)
      have g3 : w1.cell? ⟨w.heap.size, 3, none⟩ = some (.bool false) := hg.cell (cell_new _ _ _ _ _ rfl) (by simp)
      have f0 := frozen_new hg 0
      have f1 := frozen_new hg 1
      have f2 := frozen_new hg 2
      have f3 := frozen_new hg 3
      have HG := Lib.hid (none_trans (World.grownBy_alloc w _ none) hg)
      clear hg
      go_wp2_with fail
      (try simp only [Exit.inBlock, Exit.then])
      refine bodyPost_ret (v := .tuple #[.agg #[.int .i64 0, .int .i64 0, .int .i64 0, .bool false], .bool false]) (by rw [results_cell_tmp rfl]; go_simp) rfl ?_
      exact ⟨by rw [HZ.out.1, HZ.out.2]; rfl, none_set4 HG.out (Nat.le_refl _) _ _ _ _ _ _ _ _⟩
    · go_enter Try.func12, Try.ntmps12
      go_wp2_with fail
      refine (l4Find_k B _ _ cap cs e p (-1) _ (H.out.gnone (World.grownBy_alloc _ _ _) hB) hm rfl h2).mono ?_
      rintro en w' ⟨rfl, rfl⟩
      go_wp2_with fail
      refine (specCacheValid_k B _ cap cs _ true (H.out.gnone (World.grownBy_alloc _ _ _) hB) (by simp; omega) hm h1).mono ?_
      rintro en w1 ⟨rfl, hg⟩
      have g0 : w1.cell? ⟨w.heap.size, 0, none⟩ = some (.int .i64 0) := hg.cell (cell_new _ _ _ _ _ rfl) (by simp)
      have g1 : w1.cell? ⟨w.heap.size, 1, none⟩ = some (.int .i64 0) := hg.cell (cell_new _ _ _ _ _ rfl) (by simp)
      have g2 : w1.cell? ⟨w.heap.size, 2, none⟩ = some (.int .i64 0) := hg.cell (cell_new _ _ _ _ _ rfl) (by simp)
      have g3 : w1.cell? ⟨w.heap.size, 3, none⟩ = some (.bool false) := hg.cell (cell_new _ _ _ _ _ rfl) (by simp)
      have f0 := frozen_new hg 0
      have f1 := frozen_new hg 1
      have f2 := frozen_new hg 2
      have f3 := frozen_new hg 3
      have HG := Lib.hid (none_trans (World.grownBy_alloc w _ none) hg)
      clear hg
      go_wp2_with fail
      (try simp only [Exit.inBlock, Exit.then])
      refine bodyPost_ret (v := .tuple #[.agg #[.int .i64 0, .int .i64 0, .int .i64 0, .bool false], .bool false]) (by rw [results_cell_tmp rfl]; go_simp) rfl ?_
      exact ⟨by rw [HZ.out.1, HZ.out.2]; rfl, none_set4 HG.out (Nat.le_refl _) _ _ _ _ _ _ _ _⟩
  · rcases h1 : ccB cs
    · have HZ := Lib.hid (cf_bad (cs := cs) (e := e) (p := p) (.inl h1))
      go_enter Try.func12, Try.ntmps12
      go_wp2_with fail
      refine (l4Find_k B _ _ cap cs e p k _ (H.out.gnone (World.grownBy_alloc _ _ _) hB) hm rfl h2).mono ?_
      rintro en w' ⟨rfl, rfl⟩
      go_wp2_with fail
      refine (specCacheValid_k B _ cap cs _ false (H.out.gnone (World.grownBy_alloc _ _ _) hB) (by simp; omega) hm h1).mono ?_
      rintro en w1 ⟨rfl, hg⟩
      have g0 : w1.cell? ⟨w.heap.size, 0, none⟩ = some (.int .i64 0) := hg.cell (cell_new _ _ _ _ _ rfl) (by simp)
      have g1 : w1.cell? ⟨w.heap.size, 1, none⟩ = some (.int .i64 0) := hg.cell (cell_new _ _ _ _ _ rfl) (by simp)
      have g2 : w1.cell? ⟨w.heap.size, 2, none⟩ = some (.int .i64 0) := hg.cell (cell_new _ _ _ _ _ rfl) (by simp)
      have g3 : w1.cell? ⟨w.heap.size, 3, none⟩ = some (.bool false) := hg.cell (cell_new _ _ _ _ _ rfl) (by simp)
      have f0 := frozen_new hg 0
      have f1 := frozen_new hg 1
      have f2 := frozen_new hg 2
      have f3 := frozen_new hg 3
      have HG := Lib.hid (none_trans (World.grownBy_alloc w _ none) hg)
      clear hg
      go_wp2_with fail
      (try simp only [Exit.inBlock, Exit.then])
      refine bodyPost_ret (v := .tuple #[.agg #[.int .i64 0, .int .i64 0, .int .i64 0, .bool false], .bool false]) (by rw [results_cell_tmp rfl]; go_simp) rfl ?_
      exact ⟨by rw [HZ.out.1, HZ.out.2]; rfl, none_set4 HG.out (Nat.le_refl _) _ _ _ _ _ _ _ _⟩
    · have HZ := Lib.hid (cf_at (cs := cs) (e := e) (p := p) h1 h2)
      obtain ⟨b, off, rfl, hb, _⟩ := H.out.at_ hk
      go_enter Try.func12, Try.ntmps12
      go_wp2_with fail
      refine (l4Find_k B _ _ cap cs e p k _ (H.out.gnone (World.grownBy_alloc _ _ _) hB) hm rfl h2).mono ?_
      rintro en w' ⟨rfl, rfl⟩
      go_wp2_with fail
      refine (specCacheValid_k B _ cap cs _ true (H.out.gnone (World.grownBy_alloc _ _ _) hB) (by simp; omega) hm h1).mono ?_
      rintro en w1 ⟨rfl, hg⟩
      have g0 : w1.cell? ⟨w.heap.size, 0, none⟩ = some (.int .i64 0) := hg.cell (cell_new _ _ _ _ _ rfl) (by simp)
      have g1 : w1.cell? ⟨w.heap.size, 1, none⟩ = some (.int .i64 0) := hg.cell (cell_new _ _ _ _ _ rfl) (by simp)
      have g2 : w1.cell? ⟨w.heap.size, 2, none⟩ = some (.int .i64 0) := hg.cell (cell_new _ _ _ _ _ rfl) (by simp)
      have g3 : w1.cell? ⟨w.heap.size, 3, none⟩ = some (.bool false) := hg.cell (cell_new _ _ _ _ _ rfl) (by simp)
      have f0 := frozen_new hg 0
      have f1 := frozen_new hg 1
      have f2 := frozen_new hg 2
      have f3 := frozen_new hg 3
      have HG := Lib.hid (none_trans (World.grownBy_alloc w _ none) hg)
      clear hg
      obtain ⟨_, _, e0, _, c0, c1, c2, c3⟩ := H.out.at4 hB HG.out hk
      simp only [Option.some.injEq, Addr.mk.injEq, and_true] at e0
      obtain ⟨rfl, rfl⟩ := e0
      generalize cs.getD k c0V = c at *
      go_wp2_with fail
      (try simp only [Exit.inBlock, Exit.then])
      refine bodyPost_ret (v := .tuple #[.agg #[.int .i64 c.e, .int .i64 c.p, .int .i64 c.f, .bool c.b], .bool true]) (by rw [results_cell_tmp rfl]; go_simp) rfl ?_
      exact ⟨by rw [HZ.out.1, HZ.out.2], none_set4 HG.out (Nat.le_refl _) _ _ _ _ _ _ _ _⟩
end Go.Proofs.Ytmoalecejjeiiaa
