/-
  Contracts of the functions that put translations and forget them. No conditions.
-/
import Derived.Test.YtmoalecejjeiiaaCacheDel
import Derived.Test.YtmoalecejjeiiaaInv
import Derived.Deep.RegionLaw
import Derived.Deep.DeepCutAuto
namespace Go.Proofs.Ytmoalecejjeiiaa
open Go.RowKit
attribute [local irreducible] Go.wpQuiet

theorem getD_false {L : Array Bool} {i : Nat} (h : L.getD i true = false) (hi : i < L.size) : L.getD i false = false := by
  rw [Array.getD_eq_getD_getElem?, Array.getElem?_eq_getElem hi] at h ⊢
  exact h
theorem box_caches (w : World) (t : TypeId) (c : CachedV) : Caches (w.alloc (.cells #[.int .i64 c.e, .int .i64 c.p, .int .i64 c.f, .bool c.b] t)) (w.heap.size + 1) (some ⟨w.heap.size, 0, none⟩) [c] := by
  refine .inr ⟨w.heap.size, 0, rfl, by omega, fun i hi => ?_⟩
  simp only [List.length_singleton] at hi
  obtain rfl : i = 0 := by omega
  exact ⟨cell_new _ _ _ _ _ rfl, cell_new _ _ _ _ _ rfl, cell_new _ _ _ _ _ rfl, cell_new _ _ _ _ _ rfl⟩
theorem Caches.box {w : World} {B b : Nat} {c : CachedV} (h : Caches w B (some ⟨b, 0, none⟩) [c]) :
    w.cell? ⟨b, 0, none⟩ = some (.int .i64 c.e) ∧ w.cell? ⟨b, 1, none⟩ = some (.int .i64 c.p) ∧ w.cell? ⟨b, 2, none⟩ = some (.int .i64 c.f) ∧ w.cell? ⟨b, 3, none⟩ = some (.bool c.b) := by
  obtain ⟨b', off, e, _, h0, h1, h2, h3⟩ := h.at_ (i := 0) (by simp)
  simp only [Option.some.injEq, Addr.mk.injEq, and_true] at e
  obtain ⟨rfl, rfl⟩ := e
  exact ⟨h0, h1, h2, h3⟩
theorem Caches.turned {w w' : World} {B lo hi : Nat} {a : Option Addr} {cs : List CachedV} (h : Caches w B a cs) (hT : Turned lo hi w w') (hl : B ≤ lo) (hB : B ≤ w.heap.size) : Caches w' B a cs := h.kept fun j hj => hT.block j (by omega) (by omega)
theorem filter_take {cs : List CachedV} {q : CachedV → Bool} {k : Nat} (hk : k < cs.length) : (cs.take (k + 1)).filter q = (cs.take k).filter q ++ (if q (cs.getD k c0V) then [cs.getD k c0V] else []) := by
  rw [take_getD cs k hk, List.filter_append]
  rcases h : q (cs.getD k c0V) <;> rw [List.filter_cons, h] <;> rfl
theorem Caches.drop1 {w : World} {B g : Nat} {cs : List CachedV} (h : Caches w B (some ⟨g, 0, none⟩) cs) : Caches w B (some ⟨g, 4, none⟩) (cs.drop 1) := by
  rcases h with h | ⟨b, off, ha, hb, hc⟩
  · subst h; exact .inl rfl
  · simp only [Option.some.injEq, Addr.mk.injEq, and_true] at ha
    obtain ⟨rfl, rfl⟩ := ha
    refine .inr ⟨g, 4, rfl, hb, fun i hi => ?_⟩
    rw [List.length_drop] at hi
    have := hc (i + 1) (by omega)
    rw [show (cs.drop 1).getD i c0V = cs.getD (i + 1) c0V from by rw [List.getD_eq_getElem?_getD, List.getD_eq_getElem?_getD, List.getElem?_drop, Nat.add_comm 1 i]]
    rw [show 0 + (i + 1) * 4 = 4 + i * 4 from by omega] at this
    exact this
theorem own_some {w : World} {base : Nat} {v : Value} {cs : List CachedV} (h : OwnC w base v cs) (hl : 0 < cs.length) : v ≠ .slice none 0 0 := by
  rintro rfl
  rcases h.cases with ⟨_, e⟩ | ⟨_, _, e, _⟩
  · rw [e] at hl; simp at hl
  · cases e
theorem filter_take_le {cs : List CachedV} {q : CachedV → Bool} {k : Nat} : ((cs.take k).filter q).length ≤ cs.length := Nat.le_trans (List.length_filter_le _ _) (by rw [List.length_take]; omega)
set_option maxHeartbeats 1000000 in
theorem l4Drop_c (B : Nat) (a : Option Addr) (cap : Nat) (cs : List CachedV) (e : Int) (w : World) (h : Caches w B a cs) (hB : B ≤ w.heap.size) (hm : cs.length ≤ 1048576) :
    Calls Try.prog 26 #[.slice a cs.length cap, .int .i64 e] w (NewC (dropC cs e) w) := by
  have H := Lib.hid h
  clear h
  go_enter Try.func26, Try.ntmps26
  go_wp2
  go_loopw [5, 6] (fun v i wr => ∃ k : Nat, k ≤ cs.length ∧ i = .int .i64 k ∧ w.grownBy wr none ∧ OwnC wr w.heap.size v ((cs.take k).filter fun c => !(c.e == e))) (fun _ i _ => cs.length - (intOf i).toNat)
  case atStart => exact ⟨0, Nat.zero_le _, rfl, World.grownBy_alloc _ _ _, OwnC.lit w _ (Nat.le_refl _)⟩
  case round =>
    obtain ⟨k, hk, rfl, hg, ho⟩ := hrel
    by_cases hlt : k < cs.length
    · obtain ⟨b, off, rfl, hb, c0, c1, c2, c3⟩ := H.out.at4 hB hg hlt
      have HG := Lib.hid hg
      have HO := Lib.hid ho
      have HE := Lib.hid (filter_take (q := fun c => !(c.e == e)) hlt)
      have HL := Lib.hid (filter_take_le (cs := cs) (q := fun c => !(c.e == e)) (k := k))
      clear hg ho
      generalize cs.getD k c0V = c at *
      rcases hce : (c.e == e)
      · have hce2 : ¬ (c.e = e) := by simpa using hce
        go_wp2_with (at_builtin; refine wpList_appC rfl _ _ rfl w.heap.size _ _ rfl (HO.out.gnone (World.grownBy_alloc _ _ _)) (wr.heap.size + 1) wr.heap.size 0 1 1 [c] rfl rfl (box_caches _ _ _) ?c1 ?c2 ?_)
        case c1 => have := HL.out; simp; omega
        case c2 => have := HG.out.size; simp; omega
        intro v' w1 ho hg
        have HF : Hid (w.grownBy w1 none ∧ OwnC w1 w.heap.size v' ((cs.take (k + 1)).filter fun c => !(c.e == e))) := by
          refine ⟨none_row (none_trans HG.out (World.grownBy_alloc _ _ _)) hg (fun j ej => (HO.out.lt j ej).1), ?_⟩
          rw [HE.out, hce]
          exact ho
        clear ho hg
        go_wp2_with fail
        go_roundw
        case rel => exact ⟨k + 1, by omega, by go_num, HF.out.1, HF.out.2⟩
        case measure => simp [intOf]; omega
      · have hce2 : c.e = e := by simpa using hce
        go_wp2_with fail
        go_roundw
        case rel => exact ⟨k + 1, by omega, by go_num, HG.out, by rw [HE.out, hce]; simpa using HO.out⟩
        case measure => simp [intOf]; omega
    · have : k = cs.length := by omega
      subst this
      rw [List.take_length] at ho
      go_wp2_with fail
      go_ret
      exact ⟨_, rfl, ho, hg⟩
set_option maxHeartbeats 1000000 in
theorem specCacheDrop_c (B : Nat) (a : Option Addr) (cap : Nat) (cs : List CachedV) (e : Int) (w : World) (h : Caches w B a cs) (hB : B ≤ w.heap.size) (hm : cs.length ≤ 1048576) :
    Calls Try.prog 15 #[.slice a cs.length cap, .int .i64 e] w (NewC (cdL cs e) w) := by
  have H := Lib.hid h
  clear h
  rcases h1 : ccB cs
  · have HZ : Hid (cdL cs e = []) := by show _ = _; unfold cdL; rw [h1]; rfl
    go_enter Try.func15, Try.ntmps15
    go_wp2_with fail
    refine (specCacheValid_k B a cap cs _ false H.out hB hm h1).mono ?_
    rintro en w1 ⟨rfl, hg⟩
    have HG := Lib.hid hg
    clear hg
    go_wp2_with fail
    go_ret
    exact ⟨_, rfl, by rw [HZ.out]; exact (OwnC.lit w1 _ (Nat.le_refl _)).mono HG.out.size, none_alloc HG.out _⟩
  · have HZ : Hid (cdL cs e = dropC cs e) := by show _ = _; unfold cdL; rw [h1]; rfl
    go_enter Try.func15, Try.ntmps15
    go_wp2_with fail
    refine (specCacheValid_k B a cap cs _ true H.out hB hm h1).mono ?_
    rintro en w1 ⟨rfl, hg⟩
    have HG := Lib.hid hg
    clear hg
    go_wp2_with fail
    refine (l4Drop_c B a cap cs e _ (H.out.gnone HG.out hB) (by have := HG.out.size; omega) hm).mono ?_
    rintro en w2 ⟨v, rfl, ho, hg⟩
    have HF : Hid (OwnC w2 w.heap.size v (cdL cs e) ∧ w.grownBy w2 none) := ⟨by rw [HZ.out]; exact ho.mono HG.out.size, none_trans HG.out hg⟩
    clear ho hg
    go_wp2_with fail
    go_ret
    exact ⟨_, rfl, HF.out.1, HF.out.2⟩
theorem keepC_filter (cs : List CachedV) (x : CachedV) : keepC cs x = if 4 ≤ (cs.filter fun c => !hit x.e x.p c).length then (cs.filter fun c => !hit x.e x.p c).drop 1 else cs.filter fun c => !hit x.e x.p c := rfl
/-- 'append' of translations to a row of the call's own, as one step of a region that draws. -/
theorem step_appC {ops : Array Oper} {o : Oper} {a : Act} {w : World} {K : Act → World → Prop} {Q : Exit → Act → World → Prop} {E : Prop} (hgd : o.guard = none) (s x : Operand)
    (ho : o.op = .call { callee := .builtin .append, args := #[s, x], argTypes := #[25, 25] })
    (base : Nat) (v : Value) (cs : List CachedV) (hs : a.eval s = v) (hown : OwnC w base v cs) (B b off m c : Nat) (ds : List CachedV) (hx : a.eval x = .slice (some ⟨b, off, none⟩) m c) (hm : ds.length = m) (hd : Caches w B (some ⟨b, off, none⟩) ds)
    (hl : cs.length + ds.length ≤ 4194304) (hbase : base ≤ w.heap.size)
    (h : ∀ v' w', OwnC w' base v' (cs ++ ds) → w.grownBy w' v.ownBlock → K (a.put o.dst v') w') : if Region.wanted o (yielded ops a.tmps) = true then Oper.wp Try.prog o a w K Q else E := by
  have hw : Region.wanted o (yielded ops a.tmps) = true := by simp [Region.wanted, hgd]
  rw [if_pos hw]
  obtain ⟨i0, hi, hz0, hz1, hz2⟩ := info_parts infoC
  refine wp_append_own w s x 25 ho base 30 i0 (.agg #[.int .i64 0, .int .i64 0, .int .i64 0, .bool false]) 4 32 Try.underlying25 hi hz0 hz1 hz2 rfl (by decide) v cs.length _ hs hown ⟨b, off, none⟩ m c (cellsOf ds) hx (by rw [cellsOf_length, hm]) hd.news (cellsOf_one _) (by unfold maxLen; omega) (by omega) hbase ?_
  intro v' w' h2 h3 _
  refine h v' w' ?_ h3
  unfold OwnC
  rw [cellsOf_append, List.length_append, hm]
  exact h2
/-- 'append' of translations to a row of the call's own, as one step; where the row lies afterwards. -/
theorem wp_appC_at {o : Oper} {a : Act} {w : World} {K : Act → World → Prop} {Q : Exit → Act → World → Prop} (s x : Operand)
    (ho : o.op = .call { callee := .builtin .append, args := #[s, x], argTypes := #[25, 25] })
    (base : Nat) (v : Value) (cs : List CachedV) (hs : a.eval s = v) (hown : OwnC w base v cs) (B b off m c : Nat) (ds : List CachedV) (hx : a.eval x = .slice (some ⟨b, off, none⟩) m c) (hm : ds.length = m) (hd : Caches w B (some ⟨b, off, none⟩) ds)
    (hl : cs.length + ds.length ≤ 4194304) (hbase : base ≤ w.heap.size)
    (h : ∀ v' w', OwnC w' base v' (cs ++ ds) → w.grownBy w' v.ownBlock → (v'.ownBlock = v.ownBlock ∨ v'.ownBlock = some w.heap.size) → K (a.put o.dst v') w') : o.wp Try.prog a w K Q := by
  obtain ⟨i0, hi, hz0, hz1, hz2⟩ := info_parts infoC
  obtain ⟨v', w', hr, h2, h3, _, h5⟩ := run_append_own_at (P := Try.prog) w base 25 o.type 30 i0 (.agg #[.int .i64 0, .int .i64 0, .int .i64 0, .bool false]) 4 32 Try.underlying25 hi hz0 hz1 hz2 rfl (by decide) v cs.length _ hown ⟨b, off, none⟩ m c (cellsOf ds) (by rw [cellsOf_length, hm]) hd.news (cellsOf_one _) (by unfold maxLen; omega) (by omega) hbase
  unfold Oper.wp execOp
  simp only [ho, resolve, invoke, builtin, Sem.run_bind, Sem.run_pure, Result.andThen_ok, List.map_toArray, List.map_cons, List.map_nil, hs, hx, hr]
  refine h v' w' ?_ h3 h5
  unfold OwnC
  rw [cellsOf_append, List.length_append, hm]
  exact h2
/-- One translation in a block that does not turn. -/
theorem Caches.kept1 {w w' : World} {B b : Nat} {row : Option Nat} {ds : List CachedV} (h : Caches w B (some ⟨b, 0, none⟩) ds) (hg : w.grownBy w' row) (hne : row ≠ some b) : Caches w' B (some ⟨b, 0, none⟩) ds := by
  rcases h with h | ⟨b', off, ha, hb, hc⟩
  · exact .inl h
  · have e := ha
    simp only [Option.some.injEq, Addr.mk.injEq, and_true] at e
    obtain ⟨rfl, rfl⟩ := e
    refine .inr ⟨b, 0, rfl, hb, fun i hi => ?_⟩
    obtain ⟨h0, h1, h2, h3⟩ := hc i hi
    exact ⟨hg.cell h0 hne.symm, hg.cell h1 hne.symm, hg.cell h2 hne.symm, hg.cell h3 hne.symm⟩
structure InvP (wc : World) (x : CachedV) (D : List CachedV) (V5 c0 c1 c2 c3 c6 c7 c8 c9 c10 c11 c12 c13 c14 c15 c16 c17 c18 c19 c20 c21 c22 c23 c24 c25 c26 c27 c28 c29 c30 c31 c32 c33 c34 c35 c36 c37 c38 c39 c40 c41 c42 c43 : Value) (L : Array Bool) (act : Act) (w : World) : Prop where
  ex : ∃ u4 u44 u45 u46 u47 u48 u49 : Value, act = ⟨#[c0, c1, c2, c3, u4, V5, c6, c7, c8, c9, c10, c11, c12, c13, c14, c15, c16, c17, c18, c19, c20, c21, c22, c23, c24, c25, c26, c27, c28, c29, c30, c31, c32, c33, c34, c35, c36, c37, c38, c39, c40, c41, c42, c43, u44, u45, u46, u47, u48, u49], []⟩ ∧ wc.grownBy w none ∧
    (L.getD 0 false = true → L.getD 2 false = false → OwnC w wc.heap.size u44 []) ∧
    (L.getD 1 false = true → u45 = V5) ∧
    (L.getD 2 false = true → L.getD 5 false = false → OwnC w wc.heap.size u46 D) ∧
    (L.getD 3 false = true → u47 = .agg #[.int .i64 x.e, .int .i64 x.p, .int .i64 x.f, .bool x.b]) ∧
    (L.getD 4 false = true → L.getD 5 false = false → ∃ b, u48 = .slice (some ⟨b, 0, none⟩) 1 1 ∧ b < w.heap.size ∧ Caches w w.heap.size (some ⟨b, 0, none⟩) [x] ∧ (L.getD 0 false = true → L.getD 2 false = false → u44.ownBlock ≠ some b) ∧ (L.getD 2 false = true → u46.ownBlock ≠ some b)) ∧
    (L.getD 5 false = true → OwnC w wc.heap.size u49 (D ++ [x])) ∧
    (L.getD 6 false = true → u4 = u49) ∧ (L.getD 5 false = true → L.getD 2 false = true) ∧ (L.getD 6 false = true → L.getD 5 false = true)
set_option maxHeartbeats 1000000 in
theorem l4Put_c (B : Nat) (a : Option Addr) (cap : Nat) (cs : List CachedV) (x : CachedV) (w : World) (h : Caches w B a cs) (hB : B ≤ w.heap.size) (hm : cs.length ≤ 1048576) :
    Calls Try.prog 30 #[.slice a cs.length cap, .agg #[.int .i64 x.e, .int .i64 x.p, .int .i64 x.f, .bool x.b]] w (NewC (putC cs x) w) := by
  have H := Lib.hid h
  clear h
  go_enter Try.func30, Try.ntmps30
  go_wp2
  go_loopw [5, 6] (fun v i wr => ∃ k : Nat, k ≤ cs.length ∧ i = .int .i64 k ∧ w.grownBy wr none ∧ w.heap.size < wr.heap.size ∧ Caches wr (w.heap.size + 1) (some ⟨w.heap.size, 0, none⟩) [x] ∧ OwnC wr (w.heap.size + 1) v ((cs.take k).filter fun c => !hit x.e x.p c) ∧ Hid (v ≠ .slice none 0 0)) (fun _ i _ => cs.length - (intOf i).toNat)
  case atStart => exact ⟨0, Nat.zero_le _, rfl, none_alloc (World.grownBy_alloc _ _ _) _, by simp; omega, (box_caches _ _ _).gnone (World.grownBy_alloc _ _ _) (by simp), by have := OwnC.lit (w.alloc (.cells #[.int .i64 x.e, .int .i64 x.p, .int .i64 x.f, .bool x.b] 30)) (w.heap.size + 1) (by simp); simpa using this, fun e => by cases e⟩
  case round =>
    obtain ⟨k, hk, rfl, hg, hsz, hbx, ho, HNN⟩ := hrel
    by_cases hlt : k < cs.length
    · obtain ⟨b, off, rfl, hb, c0, c1, c2, c3⟩ := H.out.at4 hB hg hlt
      obtain ⟨x0, x1, x2, x3⟩ := hbx.box
      have HG := Lib.hid hg
      have HO := Lib.hid ho
      have HBX := Lib.hid hbx
      have HE := Lib.hid (filter_take (q := fun c => !hit x.e x.p c) hlt)
      have HL := Lib.hid (filter_take_le (cs := cs) (q := fun c => !hit x.e x.p c) (k := k))
      clear hg ho hbx
      generalize cs.getD k c0V = c at *
      have HH : Hid (hit x.e x.p c = ((c.e == x.e) && (c.p == x.p))) := rfl
      go_wp2_with fail
      have g0 : ∀ p : GW wr, p.v.cell? ⟨b, off + k * 4, none⟩ = some (.int .i64 c.e) := fun p => p.h.cell c0 (by simp)
      have g1 : ∀ p : GW wr, p.v.cell? ⟨b, off + k * 4 + 1, none⟩ = some (.int .i64 c.p) := fun p => p.h.cell c1 (by simp)
      have k0 : ∀ p : GW wr, p.v.cell? ⟨w.heap.size, 0, none⟩ = some (.int .i64 x.e) := fun p => p.h.cell x0 (by simp)
      have k1 : ∀ p : GW wr, p.v.cell? ⟨w.heap.size, 1, none⟩ = some (.int .i64 x.p) := fun p => p.h.cell x1 (by simp)
      clear x0 x1 x2 x3
      rcases he : (c.e == x.e)
      · have he2 : ¬ (c.e = x.e) := by simpa using he
        have HHV : Hid ((!hit x.e x.p c) = true) := by show _ = _; rw [HH.out, he]; rfl
        (refine wp_region_quiet_gw (by kernel_rfl) (by kernel_rfl) ?_; (repeat (quiet_step (fail))); refine wpQuiet_nil ?_; intro wq hw'; obtain ⟨⟨_, hgq⟩, hw''⟩ := hw'; subst hw'')
        have HQ := Lib.hid (none_trans HG.out hgq)
        have d0 := hgq.cell c0 (by simp)
        have d1 := hgq.cell c1 (by simp)
        have d2 := hgq.cell c2 (by simp)
        have d3 := hgq.cell c3 (by simp)
        have HO2 := Lib.hid (HO.out.gnone hgq)
        have HBX2 := Lib.hid (HBX.out.gnone hgq (by omega))
        have hsz2 := hgq.size
        clear hgq c0 c1 c2 c3 he2
        go_wp2_with (at_builtin; refine wpList_appC rfl _ _ rfl (w.heap.size + 1) _ _ rfl (HO2.out.gnone (World.grownBy_alloc _ _ _)) (wq.heap.size + 1) wq.heap.size 0 1 1 [c] rfl rfl (box_caches _ _ _) ?c1 ?c2 ?_)
        case c1 => have := HL.out; simp; omega
        case c2 => simp; omega
        intro v' w1 ho hg
        have HF : Hid (w.grownBy w1 none ∧ w.heap.size < w1.heap.size ∧ Caches w1 (w.heap.size + 1) (some ⟨w.heap.size, 0, none⟩) [x] ∧ OwnC w1 (w.heap.size + 1) v' ((cs.take (k + 1)).filter fun c => !hit x.e x.p c) ∧ v' ≠ .slice none 0 0) := by
          have hal : wq.grownBy (wq.alloc (.cells #[.int .i64 c.e, .int .i64 c.p, .int .i64 c.f, .bool c.b] 30)) none := World.grownBy_alloc _ _ _
          refine ⟨none_row (none_trans HQ.out hal) hg (fun j ej => by have := (HO2.out.lt j ej).1; omega), by have := hg.size; have := hal.size; omega, ?_, ?_, own_some ho (by simp)⟩
          · refine (HBX2.out.gnone hal (by omega)).kept fun j hj => hg.block j (by have := hal.size; omega) (fun ej => by have := (HO2.out.lt j ej.symm).1; omega)
          · rw [HE.out, HHV.out]
            exact ho
        clear ho hg
        go_wp2_with fail
        go_roundw
        case rel => exact ⟨k + 1, by omega, by go_num, HF.out.1, HF.out.2.1, HF.out.2.2.1, HF.out.2.2.2.1, HF.out.2.2.2.2⟩
        case measure => simp [intOf]; omega
      · have he2 : c.e = x.e := by simpa using he
        rcases hp : (c.p == x.p)
        · have hp2 : ¬ (c.p = x.p) := by simpa using hp
          have HHV : Hid ((!hit x.e x.p c) = true) := by show _ = _; rw [HH.out, he, hp]; rfl
          (refine wp_region_quiet_gw (by kernel_rfl) (by kernel_rfl) ?_; (repeat (quiet_step (fail))); refine wpQuiet_nil ?_; intro wq hw'; obtain ⟨⟨_, hgq⟩, hw''⟩ := hw'; subst hw'')
          have HQ := Lib.hid (none_trans HG.out hgq)
          have d0 := hgq.cell c0 (by simp)
          have d1 := hgq.cell c1 (by simp)
          have d2 := hgq.cell c2 (by simp)
          have d3 := hgq.cell c3 (by simp)
          have HO2 := Lib.hid (HO.out.gnone hgq)
          have HBX2 := Lib.hid (HBX.out.gnone hgq (by omega))
          have hsz2 := hgq.size
          clear hgq c0 c1 c2 c3 he2 hp2
          go_wp2_with (at_builtin; refine wpList_appC rfl _ _ rfl (w.heap.size + 1) _ _ rfl (HO2.out.gnone (World.grownBy_alloc _ _ _)) (wq.heap.size + 1) wq.heap.size 0 1 1 [c] rfl rfl (box_caches _ _ _) ?c1 ?c2 ?_)
          case c1 => have := HL.out; simp; omega
          case c2 => simp; omega
          intro v' w1 ho hg
          have HF : Hid (w.grownBy w1 none ∧ w.heap.size < w1.heap.size ∧ Caches w1 (w.heap.size + 1) (some ⟨w.heap.size, 0, none⟩) [x] ∧ OwnC w1 (w.heap.size + 1) v' ((cs.take (k + 1)).filter fun c => !hit x.e x.p c) ∧ v' ≠ .slice none 0 0) := by
            have hal : wq.grownBy (wq.alloc (.cells #[.int .i64 c.e, .int .i64 c.p, .int .i64 c.f, .bool c.b] 30)) none := World.grownBy_alloc _ _ _
            refine ⟨none_row (none_trans HQ.out hal) hg (fun j ej => by have := (HO2.out.lt j ej).1; omega), by have := hg.size; have := hal.size; omega, ?_, ?_, own_some ho (by simp)⟩
            · refine (HBX2.out.gnone hal (by omega)).kept fun j hj => hg.block j (by have := hal.size; omega) (fun ej => by have := (HO2.out.lt j ej.symm).1; omega)
            · rw [HE.out, HHV.out]
              exact ho
          clear ho hg
          go_wp2_with fail
          go_roundw
          case rel => exact ⟨k + 1, by omega, by go_num, HF.out.1, HF.out.2.1, HF.out.2.2.1, HF.out.2.2.2.1, HF.out.2.2.2.2⟩
          case measure => simp [intOf]; omega
        · have hp2 : c.p = x.p := by simpa using hp
          have HHV : Hid ((!hit x.e x.p c) = false) := by show _ = _; rw [HH.out, he, hp]; rfl
          (refine wp_region_quiet_gw (by kernel_rfl) (by kernel_rfl) ?_; (repeat (quiet_step (fail))); refine wpQuiet_nil ?_; intro wq hw'; obtain ⟨⟨_, hgq⟩, hw''⟩ := hw'; subst hw'')
          have HQ := Lib.hid hgq
          have hsz2 := hgq.size
          clear hgq c0 c1 c2 c3
          go_wp2_with fail
          go_roundw
          case rel => exact ⟨k + 1, by omega, by go_num, none_trans HG.out HQ.out, by omega, HBX.out.gnone HQ.out (by omega), by rw [HE.out, HHV.out]; simpa using HO.out.gnone HQ.out, HNN.out⟩
          case measure => simp [intOf]; omega
    · have : k = cs.length := by omega
      subst this
      rw [List.take_length] at ho
      have HKF := Lib.hid (keepC_filter cs x)
      have HLL : Hid ((cs.filter fun c => !hit x.e x.p c).length ≤ cs.length) := List.length_filter_le _ _
      have HLL' : Hid ((cs.filter fun c => !hit x.e x.p c).length ≤ cs.length) := List.length_filter_le _ _
      have HKL : Hid ((keepC cs x).length ≤ cs.length) := Nat.le_trans (keepC_sub cs x).length_le HLL'.out
      clear HLL'
      generalize (cs.filter fun c => !hit x.e x.p c) = L at *
      obtain ⟨x0, x1, x2, x3⟩ := hbx.box
      rcases ho.cases with ⟨e, _⟩ | ⟨g, cp, rfl, hg1, hg2, hlc, hcm⟩
      · exact absurd e HNN.out
      obtain ⟨_, _, e1, _, _, hmm⟩ := ho.caches (fun k e => (ho.lt k e).2)
      simp only [Value.slice.injEq, true_and] at e1
      obtain ⟨rfl, rfl⟩ := e1
      have HM := Lib.hid hmm
      have HG := Lib.hid hg
      have HBX := Lib.hid hbx
      clear ho hmm hg hbx HNN
      go_upto_if 41 with fail
      go_cut [5] (fun v wx => wx = wr ∧ ∃ off m c : Nat, v = .slice (some ⟨g, off, none⟩) m c ∧ Hid (m = (keepC cs x).length ∧ Caches wr wr.heap.size (some ⟨g, off, none⟩) (keepC cs x)))
      case first =>
        by_cases h4 : 4 ≤ L.length
        · have h4' : (4 : Int) ≤ L.length := by omega
          have h1c : (1 : Int) ≤ cp := by omega
          have h1d : (1 : Int) ≤ L.length := by omega
          have h1e : ¬ cp = 1 := by omega
          have HH : Hid (L.length - 1 = (keepC cs x).length ∧ Caches wr wr.heap.size (some ⟨g, 4, none⟩) (keepC cs x)) := by
            rw [HKF.out, if_pos h4]
            exact ⟨by simp, HM.out.drop1⟩
          go_wp2_with fail
          go_meet
          exact ⟨rfl, 4, _, _, rfl, HH.out⟩
        · have h4' : ¬ (4 : Int) ≤ L.length := by omega
          have HH : Hid (L.length = (keepC cs x).length ∧ Caches wr wr.heap.size (some ⟨g, 0, none⟩) (keepC cs x)) := by
            rw [HKF.out, if_neg h4]
            exact ⟨rfl, HM.out⟩
          go_wp2_with fail
          go_meet
          exact ⟨rfl, 0, _, _, rfl, HH.out⟩
      case rest =>
        obtain ⟨rfl, off, m, c, rfl, HC⟩ := hcut
        go_wp2_with fail
        refine wp_region_inv (by kernel_rfl) (InvP wc x (keepC cs x) (.slice (some ⟨g, off, none⟩) m c) (.slice a cs.length cap) (.agg #[.int .i64 x.e, .int .i64 x.p, .int .i64 x.f, .bool x.b]) undef (.pointer (some ⟨w.heap.size, 0, none⟩)) (.int .i64 cs.length) u7 u8 u9 u10 u11 u12 u13 u14 u15 u16 u17 u18 u19 u20 u21 u22 u23 u24 u25 u26 u27 u28 u29 u30 u31 u32 u33 u34 u35 u36 u37 u38 u39 u40 u41 u42 u43) (by kernel_rfl) ?_ ?_ ?_
        · exact ⟨_, _, _, _, _, _, _, rfl, drewN_none wc 1, by simp, by simp, by simp, by simp, by simp, by simp, by simp, by simp, by simp⟩
        · rintro L act W i hs ⟨u4, u44, u45, u46, u47, u48, u49, rfl, hG, p0, p1, p2, p3, p4, p5, p6, p7, p8⟩ hi hl hd
          have hi' : i < 7 := hi
          have hc' : i = 0 ∨ i = 1 ∨ i = 2 ∨ i = 3 ∨ i = 4 ∨ i = 5 ∨ i = 6 := by omega
          rcases hc' with rfl | rfl | rfl | rfl | rfl | rfl | rfl
          · have hLf : L.getD 0 false = false := getD_false hl (by rw [hs]; decide)
            have hsz : 0 < L.size := by rw [hs]; decide
            have E1 : (L.setIfInBounds 0 true).getD 1 false = L.getD 1 false := by rw [getD_setB _ _ _ _ hsz, if_neg (by decide)]
            have E2 : (L.setIfInBounds 0 true).getD 2 false = L.getD 2 false := by rw [getD_setB _ _ _ _ hsz, if_neg (by decide)]
            have E3 : (L.setIfInBounds 0 true).getD 3 false = L.getD 3 false := by rw [getD_setB _ _ _ _ hsz, if_neg (by decide)]
            have E4 : (L.setIfInBounds 0 true).getD 4 false = L.getD 4 false := by rw [getD_setB _ _ _ _ hsz, if_neg (by decide)]
            have E5 : (L.setIfInBounds 0 true).getD 5 false = L.getD 5 false := by rw [getD_setB _ _ _ _ hsz, if_neg (by decide)]
            have E6 : (L.setIfInBounds 0 true).getD 6 false = L.getD 6 false := by rw [getD_setB _ _ _ _ hsz, if_neg (by decide)]
            have E0 : (L.setIfInBounds 0 true).getD 0 false = true := by rw [getD_setB _ _ _ _ hsz, if_pos rfl]
            refine wpOp_run rfl rfl fun K hK => ?_
            clear hd hs hi hl
            go_simp
            have ha : W.grownBy (W.alloc (.cells #[] 30)) none := World.grownBy_alloc _ _ _
            have hz := hG.size
            refine hK _ _ ⟨_, _, _, _, _, _, _, rfl, none_trans hG ha, ?_, ?_, ?_, ?_, ?_, ?_, ?_, ?_, ?_⟩
            all_goals simp only [E0, E1, E2, E3, E4, E5, E6]
            · first | exact fun _ _ => OwnC.lit W _ hz | exact fun _ => trivial
            · first | exact p1 | exact fun _ => trivial
            · first | exact fun h h2 => (p2 h h2).gnone ha | exact fun _ => trivial
            · first | exact p3 | exact fun _ => trivial
            · intro h h2; obtain ⟨b, e1, e2, e3, e4, e5⟩ := p4 h h2; exact ⟨b, e1, by simp; omega, (e3.gnone ha (Nat.le_refl _)).mono (by simp), fun _ _ e => by have := Option.some.inj (show some W.heap.size = some b from e); omega, e5⟩
            · first | exact fun h => (p5 h).gnone ha | exact fun _ => trivial
            · first | exact p6 | exact fun _ => trivial
            · first | exact p7 | exact fun _ => trivial
            · first | exact p8 | exact fun _ => trivial
          · have hLf : L.getD 1 false = false := getD_false hl (by rw [hs]; decide)
            have hsz : 1 < L.size := by rw [hs]; decide
            have E0 : (L.setIfInBounds 1 true).getD 0 false = L.getD 0 false := by rw [getD_setB _ _ _ _ hsz, if_neg (by decide)]
            have E2 : (L.setIfInBounds 1 true).getD 2 false = L.getD 2 false := by rw [getD_setB _ _ _ _ hsz, if_neg (by decide)]
            have E3 : (L.setIfInBounds 1 true).getD 3 false = L.getD 3 false := by rw [getD_setB _ _ _ _ hsz, if_neg (by decide)]
            have E4 : (L.setIfInBounds 1 true).getD 4 false = L.getD 4 false := by rw [getD_setB _ _ _ _ hsz, if_neg (by decide)]
            have E5 : (L.setIfInBounds 1 true).getD 5 false = L.getD 5 false := by rw [getD_setB _ _ _ _ hsz, if_neg (by decide)]
            have E6 : (L.setIfInBounds 1 true).getD 6 false = L.getD 6 false := by rw [getD_setB _ _ _ _ hsz, if_neg (by decide)]
            have E1 : (L.setIfInBounds 1 true).getD 1 false = true := by rw [getD_setB _ _ _ _ hsz, if_pos rfl]
            refine wpOp_run rfl rfl fun K hK => ?_
            clear hd hs hi hl
            go_simp
            refine hK _ _ ⟨_, _, _, _, _, _, _, rfl, hG, ?_, ?_, ?_, ?_, ?_, ?_, ?_, ?_, ?_⟩
            all_goals simp only [E0, E1, E2, E3, E4, E5, E6]
            · first | exact p0 | exact fun _ => trivial
            · first | exact fun _ => rfl | exact fun _ => trivial
            · first | exact p2 | exact fun _ => trivial
            · first | exact p3 | exact fun _ => trivial
            · first | exact p4 | exact fun _ => trivial
            · first | exact p5 | exact fun _ => trivial
            · first | exact p6 | exact fun _ => trivial
            · first | exact p7 | exact fun _ => trivial
            · first | exact p8 | exact fun _ => trivial
          · have hLf : L.getD 2 false = false := getD_false hl (by rw [hs]; decide)
            have hsz : 2 < L.size := by rw [hs]; decide
            have E0 : (L.setIfInBounds 2 true).getD 0 false = L.getD 0 false := by rw [getD_setB _ _ _ _ hsz, if_neg (by decide)]
            have E1 : (L.setIfInBounds 2 true).getD 1 false = L.getD 1 false := by rw [getD_setB _ _ _ _ hsz, if_neg (by decide)]
            have E3 : (L.setIfInBounds 2 true).getD 3 false = L.getD 3 false := by rw [getD_setB _ _ _ _ hsz, if_neg (by decide)]
            have E4 : (L.setIfInBounds 2 true).getD 4 false = L.getD 4 false := by rw [getD_setB _ _ _ _ hsz, if_neg (by decide)]
            have E5 : (L.setIfInBounds 2 true).getD 5 false = L.getD 5 false := by rw [getD_setB _ _ _ _ hsz, if_neg (by decide)]
            have E6 : (L.setIfInBounds 2 true).getD 6 false = L.getD 6 false := by rw [getD_setB _ _ _ _ hsz, if_neg (by decide)]
            have E2 : (L.setIfInBounds 2 true).getD 2 false = true := by rw [getD_setB _ _ _ _ hsz, if_pos rfl]
            have d0 := hd _ rfl ⟨0, .data⟩ (by simp) rfl
            have d1 := hd _ rfl ⟨1, .data⟩ (by simp) rfl
            obtain rfl := p1 d1
            have o0 := p0 d0 hLf
            refine wpOp_run rfl rfl fun K hK => ?_
            clear hd hs hi hl
            have hz := hG.size
            refine wp_appC_at (.tmp 44) (.tmp 45) rfl wc.heap.size u44 [] rfl o0 wc.heap.size g off m c (keepC cs x) rfl HC.out.1.symm (HC.out.2.gnone hG (Nat.le_refl _)) (by have := HKL.out; simp; omega) hz ?_
            intro v' w' ho hg hat
            have hl0 : ∀ j, u44.ownBlock = some j → wc.heap.size ≤ j := fun j e => (o0.lt j e).1
            have hs2 := hg.size
            refine hK _ _ ⟨_, _, _, _, _, _, _, rfl, none_row hG hg hl0, ?_, ?_, ?_, ?_, ?_, ?_, ?_, ?_, ?_⟩
            all_goals simp only [E0, E1, E2, E3, E4, E5, E6]
            · first | exact fun _ h => by cases h | exact fun _ => trivial
            · first | exact fun _ => rfl | exact fun _ => trivial
            · first | exact fun _ _ => by simpa using ho | exact fun _ => trivial
            · first | exact p3 | exact fun _ => trivial
            · intro h h2; obtain ⟨b, e1, e2, e3, e4, _⟩ := p4 h h2; have hne := e4 d0 hLf; exact ⟨b, e1, by omega, (e3.kept1 hg hne).mono (by omega), (fun _ h => by cases h), fun _ e => hat.elim (fun h3 => hne (h3 ▸ e)) (fun h3 => by rw [h3] at e; have := Option.some.inj e; omega)⟩
            · intro h; exact absurd (p7 h) (by rw [hLf]; decide)
            · first | exact p6 | exact fun _ => trivial
            · first | exact fun _ => rfl | exact fun _ => trivial
            · first | exact p8 | exact fun _ => trivial
          · have hLf : L.getD 3 false = false := getD_false hl (by rw [hs]; decide)
            have hsz : 3 < L.size := by rw [hs]; decide
            have E0 : (L.setIfInBounds 3 true).getD 0 false = L.getD 0 false := by rw [getD_setB _ _ _ _ hsz, if_neg (by decide)]
            have E1 : (L.setIfInBounds 3 true).getD 1 false = L.getD 1 false := by rw [getD_setB _ _ _ _ hsz, if_neg (by decide)]
            have E2 : (L.setIfInBounds 3 true).getD 2 false = L.getD 2 false := by rw [getD_setB _ _ _ _ hsz, if_neg (by decide)]
            have E4 : (L.setIfInBounds 3 true).getD 4 false = L.getD 4 false := by rw [getD_setB _ _ _ _ hsz, if_neg (by decide)]
            have E5 : (L.setIfInBounds 3 true).getD 5 false = L.getD 5 false := by rw [getD_setB _ _ _ _ hsz, if_neg (by decide)]
            have E6 : (L.setIfInBounds 3 true).getD 6 false = L.getD 6 false := by rw [getD_setB _ _ _ _ hsz, if_neg (by decide)]
            have E3 : (L.setIfInBounds 3 true).getD 3 false = true := by rw [getD_setB _ _ _ _ hsz, if_pos rfl]
            refine wpOp_run rfl rfl fun K hK => ?_
            clear hd hs hi hl
            have k0 := hG.cell x0 (by simp)
            have k1 := hG.cell x1 (by simp)
            have k2 := hG.cell x2 (by simp)
            have k3 := hG.cell x3 (by simp)
            go_simp
            refine hK _ _ ⟨_, _, _, _, _, _, _, rfl, hG, ?_, ?_, ?_, ?_, ?_, ?_, ?_, ?_, ?_⟩
            all_goals simp only [E0, E1, E2, E3, E4, E5, E6]
            · first | exact p0 | exact fun _ => trivial
            · first | exact p1 | exact fun _ => trivial
            · first | exact p2 | exact fun _ => trivial
            · first | exact fun _ => rfl | exact fun _ => trivial
            · first | exact p4 | exact fun _ => trivial
            · first | exact p5 | exact fun _ => trivial
            · first | exact p6 | exact fun _ => trivial
            · first | exact p7 | exact fun _ => trivial
            · first | exact p8 | exact fun _ => trivial
          · have hLf : L.getD 4 false = false := getD_false hl (by rw [hs]; decide)
            have hsz : 4 < L.size := by rw [hs]; decide
            have E0 : (L.setIfInBounds 4 true).getD 0 false = L.getD 0 false := by rw [getD_setB _ _ _ _ hsz, if_neg (by decide)]
            have E1 : (L.setIfInBounds 4 true).getD 1 false = L.getD 1 false := by rw [getD_setB _ _ _ _ hsz, if_neg (by decide)]
            have E2 : (L.setIfInBounds 4 true).getD 2 false = L.getD 2 false := by rw [getD_setB _ _ _ _ hsz, if_neg (by decide)]
            have E3 : (L.setIfInBounds 4 true).getD 3 false = L.getD 3 false := by rw [getD_setB _ _ _ _ hsz, if_neg (by decide)]
            have E5 : (L.setIfInBounds 4 true).getD 5 false = L.getD 5 false := by rw [getD_setB _ _ _ _ hsz, if_neg (by decide)]
            have E6 : (L.setIfInBounds 4 true).getD 6 false = L.getD 6 false := by rw [getD_setB _ _ _ _ hsz, if_neg (by decide)]
            have E4 : (L.setIfInBounds 4 true).getD 4 false = true := by rw [getD_setB _ _ _ _ hsz, if_pos rfl]
            have d3 := hd _ rfl ⟨3, .data⟩ (by simp) rfl
            obtain rfl := p3 d3
            refine wpOp_run rfl rfl fun K hK => ?_
            clear hd hs hi hl
            go_simp
            have ha : W.grownBy (W.alloc (.cells #[.int .i64 x.e, .int .i64 x.p, .int .i64 x.f, .bool x.b] 30)) none := World.grownBy_alloc _ _ _
            refine hK _ _ ⟨_, _, _, _, _, _, _, rfl, none_trans hG ha, ?_, ?_, ?_, ?_, ?_, ?_, ?_, ?_, ?_⟩
            all_goals simp only [E0, E1, E2, E3, E4, E5, E6]
            · first | exact fun h h2 => (p0 h h2).gnone ha | exact fun _ => trivial
            · first | exact p1 | exact fun _ => trivial
            · first | exact fun h h2 => (p2 h h2).gnone ha | exact fun _ => trivial
            · first | exact p3 | exact fun _ => trivial
            · intro _ h5; exact ⟨W.heap.size, rfl, by simp, (box_caches _ _ _).mono (by simp), fun h h2 e => by have := (p0 h h2).lt _ e; omega, fun h e => by have := (p2 h h5).lt _ e; omega⟩
            · first | exact fun h => (p5 h).gnone ha | exact fun _ => trivial
            · first | exact p6 | exact fun _ => trivial
            · first | exact p7 | exact fun _ => trivial
            · first | exact p8 | exact fun _ => trivial
          · have hLf : L.getD 5 false = false := getD_false hl (by rw [hs]; decide)
            have hsz : 5 < L.size := by rw [hs]; decide
            have E0 : (L.setIfInBounds 5 true).getD 0 false = L.getD 0 false := by rw [getD_setB _ _ _ _ hsz, if_neg (by decide)]
            have E1 : (L.setIfInBounds 5 true).getD 1 false = L.getD 1 false := by rw [getD_setB _ _ _ _ hsz, if_neg (by decide)]
            have E2 : (L.setIfInBounds 5 true).getD 2 false = L.getD 2 false := by rw [getD_setB _ _ _ _ hsz, if_neg (by decide)]
            have E3 : (L.setIfInBounds 5 true).getD 3 false = L.getD 3 false := by rw [getD_setB _ _ _ _ hsz, if_neg (by decide)]
            have E4 : (L.setIfInBounds 5 true).getD 4 false = L.getD 4 false := by rw [getD_setB _ _ _ _ hsz, if_neg (by decide)]
            have E6 : (L.setIfInBounds 5 true).getD 6 false = L.getD 6 false := by rw [getD_setB _ _ _ _ hsz, if_neg (by decide)]
            have E5 : (L.setIfInBounds 5 true).getD 5 false = true := by rw [getD_setB _ _ _ _ hsz, if_pos rfl]
            have d2 := hd _ rfl ⟨2, .data⟩ (by simp) rfl
            have d4 := hd _ rfl ⟨4, .data⟩ (by simp) rfl
            obtain ⟨b, rfl, hb, hcb, _, hne⟩ := p4 d4 hLf
            have o2 := p2 d2 hLf
            refine wpOp_run rfl rfl fun K hK => ?_
            clear hd hs hi hl
            have hz := hG.size
            refine wp_appC_at (.tmp 46) (.tmp 48) rfl wc.heap.size u46 (keepC cs x) rfl o2 W.heap.size b 0 1 1 [x] rfl rfl hcb (by have := HKL.out; simp; omega) hz ?_
            intro v' w' ho hg hat
            have hl0 : ∀ j, u46.ownBlock = some j → wc.heap.size ≤ j := fun j e => (o2.lt j e).1
            refine hK _ _ ⟨_, _, _, _, _, _, _, rfl, none_row hG hg hl0, ?_, ?_, ?_, ?_, ?_, ?_, ?_, ?_, ?_⟩
            all_goals simp only [E0, E1, E2, E3, E4, E5, E6]
            · intro _ h; rw [d2] at h; cases h
            · first | exact p1 | exact fun _ => trivial
            · first | exact fun _ h => by cases h | exact fun _ => trivial
            · first | exact p3 | exact fun _ => trivial
            · first | exact fun _ h => by cases h | exact fun _ => trivial
            · first | exact fun _ => ho | exact fun _ => trivial
            · intro h; exact absurd (p8 h) (by rw [hLf]; decide)
            · first | exact fun _ => d2 | exact fun _ => trivial
            · first | exact fun _ => rfl | exact fun _ => trivial
          · have hLf : L.getD 6 false = false := getD_false hl (by rw [hs]; decide)
            have hsz : 6 < L.size := by rw [hs]; decide
            have E0 : (L.setIfInBounds 6 true).getD 0 false = L.getD 0 false := by rw [getD_setB _ _ _ _ hsz, if_neg (by decide)]
            have E1 : (L.setIfInBounds 6 true).getD 1 false = L.getD 1 false := by rw [getD_setB _ _ _ _ hsz, if_neg (by decide)]
            have E2 : (L.setIfInBounds 6 true).getD 2 false = L.getD 2 false := by rw [getD_setB _ _ _ _ hsz, if_neg (by decide)]
            have E3 : (L.setIfInBounds 6 true).getD 3 false = L.getD 3 false := by rw [getD_setB _ _ _ _ hsz, if_neg (by decide)]
            have E4 : (L.setIfInBounds 6 true).getD 4 false = L.getD 4 false := by rw [getD_setB _ _ _ _ hsz, if_neg (by decide)]
            have E5 : (L.setIfInBounds 6 true).getD 5 false = L.getD 5 false := by rw [getD_setB _ _ _ _ hsz, if_neg (by decide)]
            have E6 : (L.setIfInBounds 6 true).getD 6 false = true := by rw [getD_setB _ _ _ _ hsz, if_pos rfl]
            have d5 := hd _ rfl ⟨5, .data⟩ (by simp) rfl
            refine wpOp_run rfl rfl fun K hK => ?_
            clear hd hs hi hl
            go_simp
            refine hK _ _ ⟨_, _, _, _, _, _, _, rfl, hG, ?_, ?_, ?_, ?_, ?_, ?_, ?_, ?_, ?_⟩
            all_goals simp only [E0, E1, E2, E3, E4, E5, E6]
            · first | exact p0 | exact fun _ => trivial
            · first | exact p1 | exact fun _ => trivial
            · first | exact p2 | exact fun _ => trivial
            · first | exact p3 | exact fun _ => trivial
            · first | exact p4 | exact fun _ => trivial
            · first | exact p5 | exact fun _ => trivial
            · first | exact fun _ => rfl | exact fun _ => trivial
            · first | exact p7 | exact fun _ => trivial
            · first | exact fun _ => d5 | exact fun _ => trivial
        · rintro L act W ⟨u4, u44, u45, u46, u47, u48, u49, rfl, hG, p0, p1, p2, p3, p4, p5, p6, p7, p8⟩ hall
          have o5 := p5 (hall 5 (by decide))
          obtain rfl := p6 (hall 6 (by decide))
          have HF : Hid (OwnC W w.heap.size u4 (putC cs x) ∧ w.grownBy W none) := ⟨o5.mono HG.out.size, none_trans HG.out hG⟩
          clear hG hall p0 p1 p2 p3 p4 p5 p6 p7 p8 o5
          go_wp2_with fail
          go_ret
          exact ⟨_, rfl, HF.out.1, HF.out.2⟩
/-- What putting leaves: a list in new memory, and whether it was done. -/
def PutC (cs : List CachedV) (x : CachedV) (w : World) (e : Ending) (w' : World) : Prop := ∃ v, e = .returned (.tuple #[v, .bool (cpB cs x)]) ∧ OwnC w' w.heap.size v (cpL cs x) ∧ w.grownBy w' none
theorem PutC.mk' {cs : List CachedV} {x : CachedV} {w w' : World} {v : Value} {b : Bool} (hb : cpB cs x = b) (ho : OwnC w' w.heap.size v (cpL cs x)) (hg : w.grownBy w' none) : PutC cs x w (.returned (.tuple #[v, .bool b])) w' := ⟨v, by rw [hb], ho, hg⟩
set_option maxHeartbeats 1000000 in
theorem specCachePut_c (B : Nat) (a : Option Addr) (cap : Nat) (cs : List CachedV) (x : CachedV) (w : World) (h : Caches w B a cs) (hB : B ≤ w.heap.size) (hm : cs.length ≤ 1048576) :
    Calls Try.prog 19 #[.slice a cs.length cap, .agg #[.int .i64 x.e, .int .i64 x.p, .int .i64 x.f, .bool x.b]] w (PutC cs x w) := by
  have H := Lib.hid h
  clear h
  rcases h1 : ccB cs
  · have HZ : Hid (cpB cs x = false ∧ cpL cs x = []) := by refine ⟨?_, ?_⟩ <;> simp [cpL, cpB, h1]
    go_enter Try.func19, Try.ntmps19
    go_wp2_with fail
    refine (specCacheValid_k B a cap cs _ false (H.out.gnone (World.grownBy_alloc _ _ _) hB) (by simp; omega) hm h1).mono ?_
    rintro en w1 ⟨rfl, hg⟩
    have HG := Lib.hid (none_trans (World.grownBy_alloc w _ none) hg)
    clear hg
    go_wp2_with fail
    go_ret2
    exact PutC.mk' HZ.out.1 (by rw [HZ.out.2]; exact (OwnC.lit w1 _ (Nat.le_refl _)).mono HG.out.size) (none_alloc HG.out _)
  · rcases h2 : okC x
    · have HZ : Hid (cpB cs x = false ∧ cpL cs x = []) := by refine ⟨?_, ?_⟩ <;> simp [cpL, cpB, h1, h2]
      go_enter Try.func19, Try.ntmps19
      go_wp2_with fail
      refine (specCacheValid_k B a cap cs _ true (H.out.gnone (World.grownBy_alloc _ _ _) hB) (by simp; omega) hm h1).mono ?_
      rintro en w1 ⟨rfl, hg⟩
      have hbb : Caches w1 (w.heap.size + 1) (some ⟨w.heap.size, 0, none⟩) [x] := (box_caches _ _ _).gnone hg (by simp)
      have HG := Lib.hid (none_trans (World.grownBy_alloc w _ none) hg)
      obtain ⟨x0, x1, x2, x3⟩ := hbb.box
      clear hg hbb
      go_wp2_with fail
      refine (l4Cached_k x _ false h2).mono ?_
      rintro en w2 ⟨rfl, hg⟩
      have HG2 := Lib.hid (none_trans HG.out hg)
      clear hg
      go_wp2_with fail
      go_ret2
      exact PutC.mk' HZ.out.1 (by rw [HZ.out.2]; exact (OwnC.lit w2 _ (Nat.le_refl _)).mono HG2.out.size) (none_alloc HG2.out _)
    · have HZ : Hid (cpB cs x = true ∧ cpL cs x = putC cs x) := by refine ⟨?_, ?_⟩ <;> simp [cpL, cpB, h1, h2]
      go_enter Try.func19, Try.ntmps19
      go_wp2_with fail
      refine (specCacheValid_k B a cap cs _ true (H.out.gnone (World.grownBy_alloc _ _ _) hB) (by simp; omega) hm h1).mono ?_
      rintro en w1 ⟨rfl, hg⟩
      have hbb : Caches w1 (w.heap.size + 1) (some ⟨w.heap.size, 0, none⟩) [x] := (box_caches _ _ _).gnone hg (by simp)
      have HG := Lib.hid (none_trans (World.grownBy_alloc w _ none) hg)
      have hz1 : w.heap.size < w1.heap.size := by have := hg.size; simp at this; omega
      obtain ⟨x0, x1, x2, x3⟩ := hbb.box
      have HBB := Lib.hid hbb
      clear hg hbb
      go_wp2_with fail
      refine (l4Cached_k x _ true h2).mono ?_
      rintro en w2 ⟨rfl, hg⟩
      have HG2 := Lib.hid (none_trans HG.out hg)
      obtain ⟨y0, y1, y2, y3⟩ := (HBB.out.gnone hg (by omega)).box
      clear hg x0 x1 x2 x3 HBB
      go_wp2_with fail
      refine (l4Put_c B a cap cs x _ (H.out.gnone HG2.out hB) (by have := HG2.out.size; omega) hm).mono ?_
      rintro en w3 ⟨v, rfl, ho, hg⟩
      have HF : Hid (OwnC w3 w.heap.size v (cpL cs x) ∧ w.grownBy w3 none) := ⟨by rw [HZ.out.2]; exact ho.mono HG2.out.size, none_trans HG2.out hg⟩
      clear ho hg
      go_wp2_with fail
      go_ret2
      exact PutC.mk' HZ.out.1 HF.out.1 HF.out.2
/-- Cells of a row of the call's own are written: what stands there then. -/
theorem ownsRow_put {base g n cap : Nat} {e : TypeId} {size : Nat} : ∀ (vs : List Value) (o : Nat) (w : World) (xs : List Value), w.ownsRow base e size (.slice (some ⟨g, 0, none⟩) n cap) n xs → o + vs.length ≤ xs.length →
    (w.setCells g o vs).ownsRow base e size (.slice (some ⟨g, 0, none⟩) n cap) n (xs.take o ++ vs ++ xs.drop (o + vs.length)) ∧ w.grownBy (w.setCells g o vs) (some g)
  | [], o, w, xs, h, _ => ⟨by rw [List.length_nil, Nat.add_zero, List.append_nil, List.take_append_drop]; exact h, grown_refl _ _⟩
  | v :: vs, o, w, xs, h, hl => by
    have s := h.stored o v
    obtain ⟨h1, h3⟩ := ownsRow_put vs (o + 1) _ _ s.1 (by simp at hl ⊢; omega)
    refine ⟨?_, grown_trans s.2 h3⟩
    have e1 : (xs.set o v).take (o + 1) ++ vs ++ (xs.set o v).drop (o + 1 + vs.length) = xs.take o ++ (v :: vs) ++ xs.drop (o + (v :: vs).length) := by
      have ho : o < xs.length := by simp at hl; omega
      rw [List.take_succ_eq_append_getElem (by rw [List.length_set]; exact ho), List.take_set_of_le (Nat.le_refl _), List.getElem_set_self, List.drop_set_of_lt (by omega), List.length_cons, show o + 1 + vs.length = o + (vs.length + 1) from by omega]
      simp
    rw [← e1]
    exact h1
set_option maxHeartbeats 1000000 in
/-- The first of four is cut out of a list of the call's own. -/
theorem delete1_c (base : Nat) (v : Value) (cs : List CachedV) (w : World) (h : OwnC w base v cs) (h4 : cs.length = 4) :
    Calls Try.prog 32 #[v, .int .i64 0, .int .i64 1] w fun en w' => ∃ v', en = .returned v' ∧ OwnC w' base v' (cs.drop 1) ∧ w.grownBy w' v.ownBlock ∧ v'.ownBlock = v.ownBlock := by
  obtain ⟨i0, hi0, hz0, hz1, hz2⟩ := info_parts infoC
  obtain ⟨_, _, ev, _, _, hmem⟩ := h.caches (fun g e => (h.lt g e).2)
  rcases h.cases with ⟨_, e0⟩ | ⟨g, cap, rfl, hb, hg, hlc, hcm⟩
  · rw [e0] at h4; cases h4
  have hown : w.ownsRow base 30 4 (.slice (some ⟨g, 0, none⟩) cs.length cap) cs.length (cellsOf cs) := h
  simp only [Value.slice.injEq, true_and] at ev
  obtain ⟨rfl, rfl⟩ := ev
  rw [h4] at hlc hown ⊢
  have hcap : ¬ cap = 1 := by omega
  have hcap1 : (1 : Int) ≤ cap := by omega
  have hcap4 : (4 : Int) ≤ cap := by omega
  have hm1 : (cs.drop 1).length = 3 := by rw [List.length_drop, h4]
  have s1 : Hid ((cellsOf (cs.drop 1)).length = 3 * 4) := by show _ = _; rw [cellsOf_length, hm1]
  have hnews : Hid (∀ j u, (cellsOf (cs.drop 1))[j]? = some u → w.drew.cell? ((⟨g, 4, none⟩ : Addr).add j) = some u) := fun j u hu => hmem.drop1.news j u hu
  have s2 : Hid (∀ u ∈ cellsOf (cs.drop 1), u.oneCell' = true) := cellsOf_one _
  have s3 : Hid (∀ j, j < (cellsOf (cs.drop 1)).length → (w.drew.cell? ⟨g, 0 + 0 * 4 + j, none⟩).isSome = true ∧ w.drew.frozen? ⟨g, 0 + 0 * 4 + j, none⟩ = false) := by
    intro j hj
    rw [s1.out] at hj
    refine ⟨?_, hown.frozenAt _⟩
    show (w.cell? _).isSome = true
    rw [hown.cellAt _ (by omega), List.getElem?_eq_getElem (by rw [cellsOf_length, h4]; omega)]
    rfl
  have hrow := ownsRow_put (cellsOf (cs.drop 1)) (0 + 0 * 4) w.drew (cellsOf cs) (row_gnone hown (drewN_none w 1)) (by rw [s1.out, cellsOf_length, h4]; omega)
  have HR := Lib.hid hrow
  have h9 := drewN_none w 1
  have HW : Hid (w.grownBy w.drew none) := h9
  clear hrow h9 hown hmem h
  have HK : ∀ w2, w.drew.setCells g (0 + 0 * 4) (cellsOf (cs.drop 1)) = w2 → Hid ((∀ ty, (Builtin.clear_ #[25] ty #[.slice (some ⟨g, 12, none⟩) 1 (cap - 3)]).run Try.prog w2 = .ok (.tuple #[]) (w2.setCells g 12 (cellsOf (List.replicate 1 c0V)))) ∧ OwnC (w2.setCells g 12 (cellsOf (List.replicate 1 c0V))) base (.slice (some ⟨g, 0, none⟩) 3 cap) (cs.drop 1) ∧ w.grownBy (w2.setCells g 12 (cellsOf (List.replicate 1 c0V))) (some g)) := by
    rintro w2 rfl
    obtain ⟨hr, hg1⟩ := HR.out
    obtain ⟨ys, hy1, hy2, hy3⟩ := ownsRow_setCells (cellsOf (List.replicate 1 c0V)) 12 _ _ hr
    refine ⟨fun ty => run_clear4 _ 25 30 ty Try.underlying25 (fun w => by go_simp) g 12 1 _ (by omega) (fun t ht => by rw [hr.cellAt _ (by omega), List.getElem?_eq_getElem (by simp [cellsOf_length, h4]; omega)]; rfl) (fun t ht => hr.frozenAt _), ?_, grown_trans (grown_none_row HW.out _) (grown_trans hg1 hy3)⟩
    have hcut := ownsRow_cut hy1 (m := 3) (by omega)
    rw [hy2] at hcut
    unfold OwnC
    rw [hm1]
    have e : List.take 12 ((List.take (0 + 0 * 4) (cellsOf cs) ++ cellsOf (cs.drop 1) ++ List.drop (0 + 0 * 4 + (cellsOf (cs.drop 1)).length) (cellsOf cs))) = cellsOf (cs.drop 1) := by
      have h12 : (cellsOf (cs.drop 1)).length = 12 := s1.out
      rw [show 0 + 0 * 4 = 0 from rfl, List.take_zero, List.nil_append]
      conv => lhs; rw [← h12]
      exact List.take_left ..
    rw [e] at hcut
    exact hcut
  clear HR hm1 h4
  generalize cs.drop 1 = D at *
  go_enter Try.func32, Try.ntmps32
  go_wp2_with fail
  go_region_law (refine step_append_room rfl (.tmp 22) (.tmp 25) 25 rfl 30 i0 4 Try.underlying25 hi0 hz1 g 0 0 cap (by simp [Act.eval, Act.put]) ⟨g, 4, none⟩ 3 (cap - 1) (cellsOf D) (by simp [Act.eval, Act.put]) s1.out hnews.out s2.out (by omega) s3.out ?_)
  generalize hw2 : w.drew.setCells g 0 (cellsOf D) = w2
  have HZ := HK w2 hw2
  have hcl := HZ.out.1
  have HF := Lib.hid HZ.out.2
  have hcap3 : ¬ cap = 3 := by omega
  have hcap5 : (3 : Int) ≤ cap := by omega
  clear HK HZ hw2
  generalize w2.setCells g 12 (cellsOf (List.replicate 1 c0V)) = wz at *
  go_wp2_with fail
  go_ret
  exact ⟨_, rfl, HF.out.1, HF.out.2, rfl⟩
set_option maxHeartbeats 1000000 in
theorem implCachePut_c (B : Nat) (a : Option Addr) (cap : Nat) (cs : List CachedV) (x : CachedV) (w : World) (h : Caches w B a cs) (hB : B ≤ w.heap.size) (hm : cs.length ≤ 1048576) (hcap : cs.length ≤ cap) :
    Calls Try.prog 21 #[.slice a cs.length cap, .agg #[.int .i64 x.e, .int .i64 x.p, .int .i64 x.f, .bool x.b]] w (PutC cs x w) := by
  have H := Lib.hid h
  clear h
  rcases h1 : ccB cs
  · have HZ : Hid (cpB cs x = false ∧ cpL cs x = []) := by refine ⟨?_, ?_⟩ <;> simp [cpL, cpB, h1]
    go_enter Try.func21, Try.ntmps21
    go_wp2_with fail
    refine (implCacheValid_k B a cap cs _ false (H.out.gnone (World.grownBy_alloc _ _ _) hB) (by simp; omega) hm hcap h1).mono ?_
    rintro en w1 ⟨rfl, hg⟩
    have HG := Lib.hid (none_trans (World.grownBy_alloc w _ none) hg)
    clear hg
    go_wp2_with fail
    go_ret2
    exact PutC.mk' HZ.out.1 (by rw [HZ.out.2]; exact OwnC.nil _ _) HG.out
  · rcases h2 : okC x
    · have HZ : Hid (cpB cs x = false ∧ cpL cs x = []) := by refine ⟨?_, ?_⟩ <;> simp [cpL, cpB, h1, h2]
      go_enter Try.func21, Try.ntmps21
      go_wp2_with fail
      refine (implCacheValid_k B a cap cs _ true (H.out.gnone (World.grownBy_alloc _ _ _) hB) (by simp; omega) hm hcap h1).mono ?_
      rintro en w1 ⟨rfl, hg⟩
      have hbb : Caches w1 (w.heap.size + 1) (some ⟨w.heap.size, 0, none⟩) [x] := (box_caches _ _ _).gnone hg (by simp)
      have HG := Lib.hid (none_trans (World.grownBy_alloc w _ none) hg)
      obtain ⟨x0, x1, x2, x3⟩ := hbb.box
      clear hg hbb
      go_wp2_with fail
      refine (isCached_k x _ false h2).mono ?_
      rintro en w2 ⟨rfl, hg⟩
      have HG2 := Lib.hid (none_trans HG.out hg)
      clear hg
      go_wp2_with fail
      go_ret2
      exact PutC.mk' HZ.out.1 (by rw [HZ.out.2]; exact OwnC.nil _ _) HG2.out
    · have HZ : Hid (cpB cs x = true ∧ cpL cs x = keepC cs x ++ [x]) := by refine ⟨?_, ?_⟩ <;> simp [cpL, cpB, h1, h2, putC_keep]
      have HKF := Lib.hid (keepC_filter cs x)
      have HL4 : Hid ((cs.filter fun c => !hit x.e x.p c).length ≤ 4) := Nat.le_trans (List.length_filter_le _ _) ((ccB_iff cs).1 h1).1
      have HKL : Hid ((keepC cs x).length ≤ 4) := Nat.le_trans (keepC_sub cs x).length_le HL4.out
      go_enter Try.func21, Try.ntmps21
      go_wp2_with fail
      refine (implCacheValid_k B a cap cs _ true (H.out.gnone (World.grownBy_alloc _ _ _) hB) (by simp; omega) hm hcap h1).mono ?_
      rintro en w1 ⟨rfl, hg⟩
      have hbb : Caches w1 (w.heap.size + 1) (some ⟨w.heap.size, 0, none⟩) [x] := (box_caches _ _ _).gnone hg (by simp)
      have HG := Lib.hid (none_trans (World.grownBy_alloc w _ none) hg)
      have hz1 : w.heap.size < w1.heap.size := by have := hg.size; simp at this; omega
      have HS1 := Lib.hid hz1
      obtain ⟨x0, x1, x2, x3⟩ := hbb.box
      have HBB := Lib.hid hbb
      clear hg hbb
      go_wp2_with fail
      refine (isCached_k x _ true h2).mono ?_
      rintro en w2 ⟨rfl, hg⟩
      have HG2 := Lib.hid (none_trans HG.out hg)
      have HB2 := Lib.hid (HBB.out.gnone hg (by omega))
      have HZ1 : Hid (w.heap.size < w1.heap.size ∧ w1.heap.size ≤ w2.heap.size) := ⟨hz1, hg.size⟩
      clear hg x0 x1 x2 x3 HBB hz1
      go_wp2_with fail
      refine (clone_c B a cap cs _ (H.out.gnone HG2.out hB) (by have := HG2.out.size; omega) hm).mono ?_
      rintro en w3 ⟨v, rfl, ho, hg⟩
      have HO3 := Lib.hid (ho.mono HZ1.out.2)
      have HZ3 : Hid (w1.heap.size ≤ w3.heap.size) := Nat.le_trans HZ1.out.2 hg.size
      have HG3 := Lib.hid (none_trans HG2.out hg)
      have HB3 := Lib.hid (HB2.out.gnone hg (by have := HZ1.out; omega))
      obtain ⟨x0, x1, x2, x3⟩ := HB3.out.box
      have HX3 := Lib.hid x0
      have HX4 := Lib.hid x1
      clear ho hg x0 x1 x2 x3
      go_wp2_with fail
      refine (deleteFunc_c 31 _ (hit x.e x.p) w1.heap.size v cs _ (enters_of Try.func31 (by kernel_rfl) rfl) (put1_c w.heap.size x _ _ HX3.out HX4.out (fun k => by have := (HO3.out.lt _ k.symm).1; have := HZ1.out; omega)) HO3.out hm).mono ?_
      rintro en w4 ⟨v', rfl, ho, hg, hvv⟩
      have HO4 := Lib.hid ho
      have HZ4 : Hid (w1.heap.size ≤ w4.heap.size) := Nat.le_trans HZ3.out hg.size
      have HG4 : Hid (w.grownBy w4 none) := none_row HG3.out hg (fun k ek => by have := (HO3.out.lt k ek).1; have := HZ1.out; omega)
      have HB4 : Hid (Caches w4 (w.heap.size + 1) (some ⟨w.heap.size, 0, none⟩) [x]) := HB3.out.kept1 hg (fun e => by have := (HO3.out.lt _ e).1; have := HZ1.out; omega)
      obtain ⟨a4, c4, ev, _, _, _⟩ := HO4.out.caches (fun k e => (HO4.out.lt k e).2)
      have HEV := Lib.hid ev
      clear ho hg hvv HX3 HX4 HO3 HG3 HB3 HG2 HB2 ev
      generalize (cs.filter fun c => !hit x.e x.p c) = L at *
      by_cases h4 : L.length = 4
      · have HD4 := Lib.hid h4
        have HKD : Hid (keepC cs x = L.drop 1) := by show _ = _; rw [HKF.out, if_pos (by omega)]
        have e4 := HEV.out
        rw [h4] at e4
        subst e4
        clear h4
        go_wp2_with fail
        refine (delete1_c w1.heap.size _ L _ HO4.out HD4.out).mono ?_
        rintro en w5 ⟨v5, rfl, ho, hg, hvv⟩
        clear hvv
        have HO5 : Hid (OwnC w5 w1.heap.size v5 (keepC cs x)) := by rw [HKD.out]; exact ho
        have HG5 : Hid (w.grownBy w5 none) := none_row HG4.out hg (fun k ek => by have := (HO4.out.lt k ek).1; have := HZ1.out; omega)
        have HZ4 : Hid (w1.heap.size ≤ w5.heap.size) := Nat.le_trans HZ4.out hg.size
        have HB5 : Hid (Caches w5 (w.heap.size + 1) (some ⟨w.heap.size, 0, none⟩) [x]) := HB4.out.kept1 hg (fun e => by have := (HO4.out.lt _ e).1; have := HZ1.out; omega)
        clear ho hg
        obtain ⟨z0, z1, z2, z3⟩ := HB5.out.box
        have hzz := World.block_lt_of_cell? _ _ z0
        go_wp2_with (at_builtin; refine wpList_appC rfl _ _ rfl w1.heap.size _ (keepC cs x) rfl ((HO5.out).gnone (World.grownBy_alloc _ _ _)) (w5.heap.size + 1) w5.heap.size 0 1 1 [x] rfl rfl (box_caches _ _ _) ?d1 ?d2 ?_)
        case d1 => have := HKL.out; simp; omega
        case d2 => have := HZ4.out; simp; omega
        intro vz wz ho hg
        have HF : Hid (OwnC wz w.heap.size vz (cpL cs x) ∧ w.grownBy wz none) := by
          refine ⟨by rw [HZ.out.2]; exact ho.mono (by have := HZ1.out; omega), none_row (none_alloc HG5.out _) hg (fun k e => by have := (HO5.out.lt k e).1; have := HZ1.out; omega)⟩
        clear ho hg z0 z1 z2 z3
        go_wp2_with fail
        go_ret2
        exact PutC.mk' HZ.out.1 HF.out.1 HF.out.2
      · have HKD : Hid (keepC cs x = L) := by show _ = _; rw [HKF.out, if_neg (by have := HL4.out; omega)]
        have hb4 : ((L.length : Int) == 4) = false := beq_eq_false_iff_ne.2 (by omega)
        have e4 := HEV.out
        subst e4
        have HO5 : Hid (OwnC w4 w1.heap.size (.slice a4 L.length c4) (keepC cs x)) := by rw [HKD.out]; exact HO4.out
        obtain ⟨z0, z1, z2, z3⟩ := HB4.out.box
        have hzz := World.block_lt_of_cell? _ _ z0
        go_wp2_with (at_builtin; refine wpList_appC rfl _ _ rfl w1.heap.size _ (keepC cs x) rfl ((HO5.out).gnone (World.grownBy_alloc _ _ _)) (w4.heap.size + 1) w4.heap.size 0 1 1 [x] rfl rfl (box_caches _ _ _) ?d1 ?d2 ?_)
        case d1 => have := HKL.out; simp; omega
        case d2 => have := HZ4.out; simp; omega
        intro vz wz ho hg
        have HF : Hid (OwnC wz w.heap.size vz (cpL cs x) ∧ w.grownBy wz none) := by
          refine ⟨by rw [HZ.out.2]; exact ho.mono (by have := HZ1.out; omega), none_row (none_alloc HG4.out _) hg (fun k e => by have := (HO5.out.lt k e).1; have := HZ1.out; omega)⟩
        clear ho hg z0 z1 z2 z3
        go_wp2_with fail
        go_ret2
        exact PutC.mk' HZ.out.1 HF.out.1 HF.out.2
end Go.Proofs.Ytmoalecejjeiiaa
