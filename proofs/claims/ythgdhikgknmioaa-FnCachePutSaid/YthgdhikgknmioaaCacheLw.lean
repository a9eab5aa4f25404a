/-
  What the laws on drawn caches lean on: sameCache and comparisons of translations. No conditions.
-/
import Derived.Test.YthgdhikgknmioaaDrawC
import Derived.Laws.StructEq
namespace Go.Proofs.Ythgdhikgknmioaa
open Go.RowKit
attribute [local irreducible] Go.wpQuiet

theorem eqC_run (x y : CachedV) (w : World) : (binOp .eql 30 (.agg #[.int .i64 x.e, .int .i64 x.p, .int .i64 x.f, .bool x.b]) (.agg #[.int .i64 y.e, .int .i64 y.p, .int .i64 y.f, .bool y.b])).run Try.prog w = .ok (.bool (decide (x = y))) w := by
  have hS : Try.prog.underlying 30 = some (.struct (Try.prog.fieldsOf 30)) := by kernel_rfl
  have hp : Try.prog.stoodInHeld 30 = false := by kernel_rfl
  rw [run_eql_struct, show (10000 : Nat) = 9999 + 1 from rfl, run_equalIn_agg w 9999 30 _ _ hS hp]
  simp only [Program.fieldsOf, Try.underlying30]
  obtain ⟨xe, xp, xf, xb⟩ := x
  obtain ⟨ye, yp, yf, yb⟩ := y
  go_simp
  by_cases h0 : xe = ye <;> by_cases h1 : xp = yp <;> by_cases h2 : xf = yf <;> by_cases h3 : xb = yb <;> simp [h0, h1, h2, h3]
theorem neqC_run (x y : CachedV) (w : World) : (binOp .neq 30 (.agg #[.int .i64 x.e, .int .i64 x.p, .int .i64 x.f, .bool x.b]) (.agg #[.int .i64 y.e, .int .i64 y.p, .int .i64 y.f, .bool y.b])).run Try.prog w = .ok (.bool (!decide (x = y))) w := by
  have h := eqC_run x y w
  rw [run_eql_struct] at h
  rw [run_neq_struct]
  revert h
  generalize (Op.equalIn 10000 30 (.agg #[.int .i64 x.e, .int .i64 x.p, .int .i64 x.f, .bool x.b]) (.agg #[.int .i64 y.e, .int .i64 y.p, .int .i64 y.f, .bool y.b])).run Try.prog w = r
  intro h
  cases r with
  | ok b w1 => simp only [Result.andThen_ok, Result.ok.injEq, Value.bool.injEq] at h ⊢; exact ⟨by rw [h.1], h.2⟩
  | halt a w1 => cases h
theorem grdC (op : BinOp) (o1 o2 : Operand) (xs ys : Array Value) (w : World) : (eqGuard op 30 o1 o2 (.agg xs) (.agg ys)).run Try.prog w = .ok () w := run_eqGuard_agg w op _ o1 o2 xs ys (by kernel_rfl)
set_option maxHeartbeats 1000000 in
theorem sameCache_k (B B' : Nat) (a a' : Option Addr) (cap cap' : Nat) (la lb : List CachedV) (w : World) (h : Caches w B a la) (h' : Caches w B' a' lb) (hB : B ≤ w.heap.size) (hB' : B' ≤ w.heap.size) (hm : la.length ≤ 1048576) (_hm' : lb.length ≤ 1048576) (he : la = lb) :
    Calls Try.prog 19 #[.slice a la.length cap, .slice a' lb.length cap'] w fun en w' => en = .returned (.bool true) ∧ w.grownBy w' none := by
  subst he
  have H := Lib.hid h
  have H' := Lib.hid h'
  clear h h'
  obtain ⟨n, hn⟩ : ∃ n, n = la.length := ⟨_, rfl⟩
  have HN : Hid (la.length = n) := hn.symm
  rw [← hn] at hm ⊢
  clear hn
  go_enter Try.func19, Try.ntmps19
  go_wp2_with fail
  go_loopw [5] (fun i wr => ∃ k : Nat, k ≤ n ∧ i = .int .i64 k ∧ w.grownBy wr none) (fun i _ => n - (intOf i).toNat)
  case atStart => exact ⟨0, Nat.zero_le _, rfl, grown_refl _ _⟩
  case round =>
    obtain ⟨k, hk, rfl, hg⟩ := hrel
    by_cases hlt : k < n
    · obtain ⟨b, off, rfl, hb, c0, c1, c2, c3⟩ := H.out.at4 hB hg (i := k) (by rw [HN.out]; exact hlt)
      obtain ⟨b', off', rfl, hb', d0, d1, d2, d3⟩ := H'.out.at4 hB' hg (i := k) (by rw [HN.out]; exact hlt)
      have HG := Lib.hid hg
      clear hg
      generalize la.getD k c0V = x at *
      go_wp2_with fail
      have g0 : ∀ p : GW wr, p.v.cell? ⟨b, off + k * 4, none⟩ = some (.int .i64 x.e) := fun p => p.h.cell c0 (by simp)
      have g1 : ∀ p : GW wr, p.v.cell? ⟨b, off + k * 4 + 1, none⟩ = some (.int .i64 x.p) := fun p => p.h.cell c1 (by simp)
      have g2 : ∀ p : GW wr, p.v.cell? ⟨b, off + k * 4 + 2, none⟩ = some (.int .i64 x.f) := fun p => p.h.cell c2 (by simp)
      have g3 : ∀ p : GW wr, p.v.cell? ⟨b, off + k * 4 + 3, none⟩ = some (.bool x.b) := fun p => p.h.cell c3 (by simp)
      have k0 : ∀ p : GW wr, p.v.cell? ⟨b', off' + k * 4, none⟩ = some (.int .i64 x.e) := fun p => p.h.cell d0 (by simp)
      have k1 : ∀ p : GW wr, p.v.cell? ⟨b', off' + k * 4 + 1, none⟩ = some (.int .i64 x.p) := fun p => p.h.cell d1 (by simp)
      have k2 : ∀ p : GW wr, p.v.cell? ⟨b', off' + k * 4 + 2, none⟩ = some (.int .i64 x.f) := fun p => p.h.cell d2 (by simp)
      have k3 : ∀ p : GW wr, p.v.cell? ⟨b', off' + k * 4 + 3, none⟩ = some (.bool x.b) := fun p => p.h.cell d3 (by simp)
      have hE : ∀ W : World, (binOp .neq 30 (.agg #[.int .i64 x.e, .int .i64 x.p, .int .i64 x.f, .bool x.b]) (.agg #[.int .i64 x.e, .int .i64 x.p, .int .i64 x.f, .bool x.b])).run Try.prog W = .ok (.bool false) W := fun W => by rw [neqC_run]; simp
      have hD := grdC .neq
      clear c0 c1 c2 c3 d0 d1 d2 d3
      go_quiet_gw (fail)
      have HQ := Lib.hid hgq
      clear hgq hE hD g0 g1 g2 g3 k0 k1 k2 k3
      go_wp2_with fail
      go_roundw
      case rel => exact ⟨k + 1, by omega, by go_num, none_trans HG.out HQ.out⟩
      case measure => simp [intOf]; omega
    · have : k = n := by omega
      subst this
      go_wp2_with fail
      go_ret
      exact ⟨rfl, hg⟩
end Go.Proofs.Ythgdhikgknmioaa
