/-
  Contracts of the functions that put translations and forget them. No conditions.
-/
import Derived.Test.YtmoalecejjeiiaaCacheDel
namespace Go.Proofs.Ytmoalecejjeiiaa
open Go.RowKit
attribute [local irreducible] Go.wpQuiet

theorem box_caches (w : World) (t : TypeId) (c : CachedV) : Caches (w.alloc (.cells #[.int .i64 c.e, .int .i64 c.p, .int .i64 c.f, .bool c.b] t)) (w.heap.size + 1) (some ⟨w.heap.size, 0, none⟩) [c] := by
  refine .inr ⟨w.heap.size, 0, rfl, by omega, fun i hi => ?_⟩
  simp only [List.length_singleton] at hi
  obtain rfl : i = 0 := by omega
  exact ⟨cell_new _ _ _ _ _ rfl, cell_new _ _ _ _ _ rfl, cell_new _ _ _ _ _ rfl, cell_new _ _ _ _ _ rfl⟩
theorem Caches.box {w : World} {B b : Nat} {c : CachedV} (h : Caches w B (some ⟨b, 0, none⟩) [c]) :
    w.cell? ⟨b, 0, none⟩ = some (.int .i64 c.e) ∧ w.cell? ⟨b, 1, none⟩ = some (.int .i64 c.p) ∧ w.cell? ⟨b, 2, none⟩ = some (.int .i64 c.f) ∧ w.cell? ⟨b, 3, none⟩ = some (.bool c.b) := by
  obtain ⟨b', off, e, _, h0, h1, h2, h3⟩ := h.at_ (i := 0) (by simp)
  simp only [Option.some.injEq, Addr.mk.injEq, and_true] at e
  obtain ⟨rfl, rfl⟩ := e
  exact ⟨h0, h1, h2, h3⟩
theorem Caches.turned {w w' : World} {B lo hi : Nat} {a : Option Addr} {cs : List CachedV} (h : Caches w B a cs) (hT : Turned lo hi w w') (hl : B ≤ lo) (hB : B ≤ w.heap.size) : Caches w' B a cs := h.kept fun j hj => hT.block j (by omega) (by omega)
theorem filter_take {cs : List CachedV} {q : CachedV → Bool} {k : Nat} (hk : k < cs.length) : (cs.take (k + 1)).filter q = (cs.take k).filter q ++ (if q (cs.getD k c0V) then [cs.getD k c0V] else []) := by
  rw [take_getD cs k hk, List.filter_append]
  rcases h : q (cs.getD k c0V) <;> rw [List.filter_cons, h] <;> rfl
theorem filter_take_le {cs : List CachedV} {q : CachedV → Bool} {k : Nat} : ((cs.take k).filter q).length ≤ cs.length := Nat.le_trans (List.length_filter_le _ _) (by rw [List.length_take]; omega)
set_option maxHeartbeats 1000000 in
theorem l4Drop_c (B : Nat) (a : Option Addr) (cap : Nat) (cs : List CachedV) (e : Int) (w : World) (h : Caches w B a cs) (hB : B ≤ w.heap.size) (hm : cs.length ≤ 1048576) :
    Calls Try.prog 26 #[.slice a cs.length cap, .int .i64 e] w (NewC (dropC cs e) w) := by
  have H := Lib.hid h
  clear h
  go_enter Try.func26, Try.ntmps26
  go_wp2
  go_loopw [5, 6] (fun v i wr => ∃ k : Nat, k ≤ cs.length ∧ i = .int .i64 k ∧ w.grownBy wr none ∧ OwnC wr w.heap.size v ((cs.take k).filter fun c => !(c.e == e))) (fun _ i _ => cs.length - (intOf i).toNat)
  case atStart => exact ⟨0, Nat.zero_le _, rfl, World.grownBy_alloc _ _ _, OwnC.lit w _ (Nat.le_refl _)⟩
  case round =>
    obtain ⟨k, hk, rfl, hg, ho⟩ := hrel
    by_cases hlt : k < cs.length
    · obtain ⟨b, off, rfl, hb, c0, c1, c2, c3⟩ := H.out.at4 hB hg hlt
      have HG := Lib.hid hg
      have HO := Lib.hid ho
      have HE := Lib.hid (filter_take (q := fun c => !(c.e == e)) hlt)
      have HL := Lib.hid (filter_take_le (cs := cs) (q := fun c => !(c.e == e)) (k := k))
      clear hg ho
      generalize cs.getD k c0V = c at *
      rcases hce : (c.e == e)
      · have hce2 : ¬ (c.e = e) := by simpa using hce
        go_wp2_with (at_builtin; refine wpList_appC rfl _ _ rfl w.heap.size _ _ rfl (HO.out.gnone (World.grownBy_alloc _ _ _)) (wr.heap.size + 1) wr.heap.size 0 1 1 [c] rfl rfl (box_caches _ _ _) ?c1 ?c2 ?_)
        case c1 => have := HL.out; simp; omega
        case c2 => have := HG.out.size; simp; omega
        intro v' w1 ho hg
        have HF : Hid (w.grownBy w1 none ∧ OwnC w1 w.heap.size v' ((cs.take (k + 1)).filter fun c => !(c.e == e))) := by
          refine ⟨none_row (none_trans HG.out (World.grownBy_alloc _ _ _)) hg (fun j ej => (HO.out.lt j ej).1), ?_⟩
          rw [HE.out, hce]
          exact ho
        clear ho hg
        go_wp2_with fail
        go_roundw
        case rel => exact ⟨k + 1, by omega, by go_num, HF.out.1, HF.out.2⟩
        case measure => simp [intOf]; omega
      · have hce2 : c.e = e := by simpa using hce
        go_wp2_with fail
        go_roundw
        case rel => exact ⟨k + 1, by omega, by go_num, HG.out, by rw [HE.out, hce]; simpa using HO.out⟩
        case measure => simp [intOf]; omega
    · have : k = cs.length := by omega
      subst this
      rw [List.take_length] at ho
      go_wp2_with fail
      go_ret
      exact ⟨_, rfl, ho, hg⟩
set_option maxHeartbeats 1000000 in
theorem specCacheDrop_c (B : Nat) (a : Option Addr) (cap : Nat) (cs : List CachedV) (e : Int) (w : World) (h : Caches w B a cs) (hB : B ≤ w.heap.size) (hm : cs.length ≤ 1048576) :
    Calls Try.prog 15 #[.slice a cs.length cap, .int .i64 e] w (NewC (cdL cs e) w) := by
  have H := Lib.hid h
  clear h
  rcases h1 : ccB cs
  · have HZ : Hid (cdL cs e = []) := by show _ = _; unfold cdL; rw [h1]; rfl
    go_enter Try.func15, Try.ntmps15
    go_wp2_with fail
    refine (specCacheValid_k B a cap cs _ false H.out hB hm h1).mono ?_
    rintro en w1 ⟨rfl, hg⟩
    have HG := Lib.hid hg
    clear hg
    go_wp2_with fail
    go_ret
    exact ⟨_, rfl, by rw [HZ.out]; exact (OwnC.lit w1 _ (Nat.le_refl _)).mono HG.out.size, none_alloc HG.out _⟩
  · have HZ : Hid (cdL cs e = dropC cs e) := by show _ = _; unfold cdL; rw [h1]; rfl
    go_enter Try.func15, Try.ntmps15
    go_wp2_with fail
    refine (specCacheValid_k B a cap cs _ true H.out hB hm h1).mono ?_
    rintro en w1 ⟨rfl, hg⟩
    have HG := Lib.hid hg
    clear hg
    go_wp2_with fail
    refine (l4Drop_c B a cap cs e _ (H.out.gnone HG.out hB) (by have := HG.out.size; omega) hm).mono ?_
    rintro en w2 ⟨v, rfl, ho, hg⟩
    have HF : Hid (OwnC w2 w.heap.size v (cdL cs e) ∧ w.grownBy w2 none) := ⟨by rw [HZ.out]; exact ho.mono HG.out.size, none_trans HG.out hg⟩
    clear ho hg
    go_wp2_with fail
    go_ret
    exact ⟨_, rfl, HF.out.1, HF.out.2⟩
end Go.Proofs.Ytmoalecejjeiiaa
