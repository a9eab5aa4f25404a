/-
  What the laws on drawn caches lean on: sameCache and comparisons of translations. No conditions.
-/
import Derived.Test.YthgdhikgknmioaaDrawC
import Derived.Laws.StructEq
namespace Go.Proofs.Ythgdhikgknmioaa
open Go.RowKit
attribute [local irreducible] Go.wpQuiet

theorem eqC_run (x y : CachedV) (w : World) : (binOp .eql 30 (.agg #[.int .i64 x.e, .int .i64 x.p, .int .i64 x.f, .bool x.b]) (.agg #[.int .i64 y.e, .int .i64 y.p, .int .i64 y.f, .bool y.b])).run Try.prog w = .ok (.bool (decide (x = y))) w := by
  have hS : Try.prog.underlying 30 = some (.struct (Try.prog.fieldsOf 30)) := by kernel_rfl
  have hp : Try.prog.stoodInHeld 30 = false := by kernel_rfl
  rw [run_eql_struct, show (10000 : Nat) = 9999 + 1 from rfl, run_equalIn_agg w 9999 30 _ _ hS hp]
  simp only [Program.fieldsOf, Try.underlying30]
  obtain ⟨xe, xp, xf, xb⟩ := x
  obtain ⟨ye, yp, yf, yb⟩ := y
  go_simp
  by_cases h0 : xe = ye <;> by_cases h1 : xp = yp <;> by_cases h2 : xf = yf <;> by_cases h3 : xb = yb <;> simp [h0, h1, h2, h3]
theorem neqC_run (x y : CachedV) (w : World) : (binOp .neq 30 (.agg #[.int .i64 x.e, .int .i64 x.p, .int .i64 x.f, .bool x.b]) (.agg #[.int .i64 y.e, .int .i64 y.p, .int .i64 y.f, .bool y.b])).run Try.prog w = .ok (.bool (!decide (x = y))) w := by
  have h := eqC_run x y w
  rw [run_eql_struct] at h
  rw [run_neq_struct]
  revert h
  generalize (Op.equalIn 10000 30 (.agg #[.int .i64 x.e, .int .i64 x.p, .int .i64 x.f, .bool x.b]) (.agg #[.int .i64 y.e, .int .i64 y.p, .int .i64 y.f, .bool y.b])).run Try.prog w = r
  intro h
  cases r with
  | ok b w1 => simp only [Result.andThen_ok, Result.ok.injEq, Value.bool.injEq] at h ⊢; exact ⟨by rw [h.1], h.2⟩
  | halt a w1 => cases h
theorem grdC (op : BinOp) (o1 o2 : Operand) (xs ys : Array Value) (w : World) : (eqGuard op 30 o1 o2 (.agg xs) (.agg ys)).run Try.prog w = .ok () w := run_eqGuard_agg w op _ o1 o2 xs ys (by kernel_rfl)
/-- A row of the call's own with one place more, where there is room. -/
theorem ownsRow_more {w : World} {base g n cap : Nat} {e : TypeId} {size : Nat} {xs : List Value} (h : w.ownsRow base e size (.slice (some ⟨g, 0, none⟩) n cap) n xs) (hc : n + 1 ≤ cap) :
    ∃ ys, ys.length = (n + 1) * size ∧ ys.take (n * size) = xs ∧ w.ownsRow base e size (.slice (some ⟨g, 0, none⟩) (n + 1) cap) (n + 1) ys := by
  rcases h.2 with ⟨h0, _⟩ | ⟨g', cap', cur, he, hb, hg, hn, hmx, hs, ht⟩
  · cases h0
  · simp only [Value.slice.injEq, Option.some.injEq, Addr.mk.injEq, and_true, true_and] at he
    obtain ⟨rfl, rfl⟩ := he
    have hle : (n + 1) * size ≤ cap * size := Nat.mul_le_mul_right _ hc
    have hle2 : n * size ≤ (n + 1) * size := Nat.mul_le_mul_right _ (by omega)
    have hl : (cur.toList.take ((n + 1) * size)).length = (n + 1) * size := by rw [List.length_take, Array.length_toList, hs]; omega
    refine ⟨cur.toList.take ((n + 1) * size), hl, ?_, hl, .inr ⟨g, cap, cur, rfl, hb, hg, hc, hmx, hs, rfl⟩⟩
    rw [List.take_take, Nat.min_eq_left hle2, ht]
/-- 'append' of a translation to a row of the call's own without its first one. -/
theorem wpList_appC4 {ops : Array Oper} {rest : List Oper} {o : Oper} {a : Act} {w : World} {Q : Exit → Act → World → Prop} (hgd : o.guard = none) (s x : Operand)
    (ho : o.op = .call { callee := .builtin .append, args := #[s, x], argTypes := #[23, 23] })
    (base g cp : Nat) (L : List CachedV) (hown : OwnC w base (.slice (some ⟨g, 0, none⟩) L.length cp) L) (n c : Nat) (hs : a.eval s = .slice (some ⟨g, 4, none⟩) n c) (hn : n + 1 = L.length) (hc : c + 1 = cp)
    (B b : Nat) (y : CachedV) (hx : a.eval x = .slice (some ⟨b, 0, none⟩) 1 1) (hd : Caches w B (some ⟨b, 0, none⟩) [y]) (hlen : L.length ≤ 1000) (D : List CachedV) (hD : L.drop 1 = D)
    (h : ∀ b' off' c' w', Caches w' w'.heap.size (some ⟨b', off', none⟩) (D ++ [y]) → w.grownBy w' (some g) → wpList Try.prog ops Q rest (a.put o.dst (.slice (some ⟨b', off', none⟩) (n + 1) c')) w') : wpList Try.prog ops Q (o :: rest) a w := by
  subst hD
  obtain ⟨i0, hi, hz0, hz1, hz2⟩ := info_parts infoC
  obtain ⟨_, _, ev, hlc, hcm, hmem⟩ := hown.caches (fun g e => (hown.lt g e).2)
  simp only [Value.slice.injEq, true_and] at ev
  obtain ⟨rfl, rfl⟩ := ev
  have hrow : w.ownsRow base 30 4 (.slice (some ⟨g, 0, none⟩) L.length cp) L.length (cellsOf L) := hown
  have hdl : (L.drop 1).length = n := by rw [List.length_drop]; omega
  have hdl2 : (L.drop 1 ++ [y]).length = n + 1 := by rw [List.length_append, hdl]; rfl
  have hm1 := hmem.drop1
  refine wpList_append_arg w hgd s x 23 ho 30 i0 (.agg #[.int .i64 0, .int .i64 0, .int .i64 0, .bool false]) 4 32 Try.underlying23 hi hz0 hz1 hz2 rfl (by decide) g 4 n c (cellsOf (L.drop 1)) hs (by rw [cellsOf_length, hdl]) (fun j u hu => by have := hm1.news j u hu; rw [Addr.add_lit] at this; exact this) ⟨b, 0, none⟩ 1 1 (cellsOf [y]) hx (by rw [cellsOf_length]; rfl) hd.news (cellsOf_one _) ?_ (by unfold maxLen; omega) (by omega) ?_ ?_
  · intro hr j hj
    rw [cellsOf_length] at hj
    simp only [List.length_singleton] at hj
    obtain ⟨ys, y1, y2, y3⟩ := ownsRow_more hrow (by omega)
    refine ⟨?_, y3.frozenAt _⟩
    rw [y3.cellAt _ (by omega), List.getElem?_eq_getElem (by rw [y1]; omega)]
    rfl
  · intro hr
    obtain ⟨ys, y1, y2, y3⟩ := ownsRow_more hrow (by omega)
    obtain ⟨p1, p2⟩ := ownsRow_put (cellsOf [y]) (4 + n * 4) w ys y3 (by rw [y1, cellsOf_length]; simp; omega)
    have e1 : ys.take (4 + n * 4) ++ cellsOf [y] ++ ys.drop (4 + n * 4 + (cellsOf [y]).length) = cellsOf (L ++ [y]) := by
      have e2 : ys.drop (4 + n * 4 + (cellsOf [y]).length) = [] := List.drop_eq_nil_of_le (by rw [y1, cellsOf_length]; simp; omega)
      rw [e2, List.append_nil, show 4 + n * 4 = L.length * 4 from by omega, y2, cellsOf_append]
    rw [e1] at p1
    have hl2 : (L ++ [y]).length = L.length + 1 := by simp
    have hO : OwnC (w.setCells g (4 + n * 4) (cellsOf [y])) base (.slice (some ⟨g, 0, none⟩) (L ++ [y]).length cp) (L ++ [y]) := by unfold OwnC; rw [hl2]; exact p1
    obtain ⟨_, _, ev2, _, _, hm2⟩ := hO.caches (fun g e => (hO.lt g e).2)
    simp only [Value.slice.injEq, true_and] at ev2
    obtain ⟨rfl, rfl⟩ := ev2
    have hm3 := hm2.drop1
    have e4 : (L ++ [y]).drop 1 = L.drop 1 ++ [y] := List.drop_append_of_le_length (by omega)
    rw [e4] at hm3
    exact h g 4 c _ hm3 p2
  · intro hr v' w' h2 h3
    have hO : OwnC w' w.heap.size v' (L.drop 1 ++ [y]) := by unfold OwnC; rw [cellsOf_append, hdl2]; exact h2
    rcases hO.cases with ⟨_, e0⟩ | ⟨g2, c2, rfl, _⟩
    · rw [e0] at hdl2; simp at hdl2
    obtain ⟨_, _, ev2, _, _, hm2⟩ := hO.caches (fun g e => (hO.lt g e).2)
    simp only [Value.slice.injEq, true_and] at ev2
    obtain ⟨rfl, rfl⟩ := ev2
    have := h g2 0 c2 w' hm2 (grown_none_row h3 _)
    rw [hdl2]
    exact this
set_option maxHeartbeats 1000000 in
theorem sameCache_k (B B' : Nat) (a a' : Option Addr) (cap cap' : Nat) (la lb : List CachedV) (w : World) (h : Caches w B a la) (h' : Caches w B' a' lb) (hB : B ≤ w.heap.size) (hB' : B' ≤ w.heap.size) (hm : la.length ≤ 1048576) (_hm' : lb.length ≤ 1048576) (he : la = lb) :
    Calls Try.prog 19 #[.slice a la.length cap, .slice a' lb.length cap'] w fun en w' => en = .returned (.bool true) ∧ w.grownBy w' none := by
  subst he
  have H := Lib.hid h
  have H' := Lib.hid h'
  clear h h'
  obtain ⟨n, hn⟩ : ∃ n, n = la.length := ⟨_, rfl⟩
  have HN : Hid (la.length = n) := hn.symm
  rw [← hn] at hm ⊢
  clear hn
  go_enter Try.func19, Try.ntmps19
  go_wp2_with fail
  go_loopw [5] (fun i wr => ∃ k : Nat, k ≤ n ∧ i = .int .i64 k ∧ w.grownBy wr none) (fun i _ => n - (intOf i).toNat)
  case atStart => exact ⟨0, Nat.zero_le _, rfl, grown_refl _ _⟩
  case round =>
    obtain ⟨k, hk, rfl, hg⟩ := hrel
    by_cases hlt : k < n
    · obtain ⟨b, off, rfl, hb, c0, c1, c2, c3⟩ := H.out.at4 hB hg (i := k) (by rw [HN.out]; exact hlt)
      obtain ⟨b', off', rfl, hb', d0, d1, d2, d3⟩ := H'.out.at4 hB' hg (i := k) (by rw [HN.out]; exact hlt)
      have HG := Lib.hid hg
      clear hg
      generalize la.getD k c0V = x at *
      go_wp2_with fail
      have g0 : ∀ p : GW wr, p.v.cell? ⟨b, off + k * 4, none⟩ = some (.int .i64 x.e) := fun p => p.h.cell c0 (by simp)
      have g1 : ∀ p : GW wr, p.v.cell? ⟨b, off + k * 4 + 1, none⟩ = some (.int .i64 x.p) := fun p => p.h.cell c1 (by simp)
      have g2 : ∀ p : GW wr, p.v.cell? ⟨b, off + k * 4 + 2, none⟩ = some (.int .i64 x.f) := fun p => p.h.cell c2 (by simp)
      have g3 : ∀ p : GW wr, p.v.cell? ⟨b, off + k * 4 + 3, none⟩ = some (.bool x.b) := fun p => p.h.cell c3 (by simp)
      have k0 : ∀ p : GW wr, p.v.cell? ⟨b', off' + k * 4, none⟩ = some (.int .i64 x.e) := fun p => p.h.cell d0 (by simp)
      have k1 : ∀ p : GW wr, p.v.cell? ⟨b', off' + k * 4 + 1, none⟩ = some (.int .i64 x.p) := fun p => p.h.cell d1 (by simp)
      have k2 : ∀ p : GW wr, p.v.cell? ⟨b', off' + k * 4 + 2, none⟩ = some (.int .i64 x.f) := fun p => p.h.cell d2 (by simp)
      have k3 : ∀ p : GW wr, p.v.cell? ⟨b', off' + k * 4 + 3, none⟩ = some (.bool x.b) := fun p => p.h.cell d3 (by simp)
      have hE : ∀ W : World, (binOp .neq 30 (.agg #[.int .i64 x.e, .int .i64 x.p, .int .i64 x.f, .bool x.b]) (.agg #[.int .i64 x.e, .int .i64 x.p, .int .i64 x.f, .bool x.b])).run Try.prog W = .ok (.bool false) W := fun W => by rw [neqC_run]; simp
      have hD := grdC .neq
      clear c0 c1 c2 c3 d0 d1 d2 d3
      (refine wp_region_quiet_gw (by kernel_rfl) (by kernel_rfl) ?_; (repeat (quiet_step (fail))); refine wpQuiet_nil ?_; intro wq hw'; obtain ⟨⟨_, hgq⟩, hw''⟩ := hw'; subst hw'')
      have HQ := Lib.hid hgq
      clear hgq hE hD g0 g1 g2 g3 k0 k1 k2 k3
      go_wp2_with fail
      go_roundw
      case rel => exact ⟨k + 1, by omega, by go_num, none_trans HG.out HQ.out⟩
      case measure => simp [intOf]; omega
    · have : k = n := by omega
      subst this
      go_wp2_with fail
      go_ret
      exact ⟨rfl, hg⟩
end Go.Proofs.Ythgdhikgknmioaa
