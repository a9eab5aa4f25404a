/-
  Contracts of the functions on lists of translations that only read (their parameters are boxed: the world grows). No conditions.
-/
import Derived.Test.YthgdhikgknmioaaCachePl
import Derived.Shelf.Abstract
namespace Go.Proofs.Ythgdhikgknmioaa
open Go.RowKit

/-- The four cells of place k of a list below block B, off a world that has grown. -/
theorem Caches.at4 {w w' : World} {B : Nat} {a : Option Addr} {cs : List CachedV} (h : Caches w B a cs) (hB : B ≤ w.heap.size) (hg : w.grownBy w' none) {i : Nat} (hi : i < cs.length) :
    ∃ b off, a = some ⟨b, off, none⟩ ∧ b < B ∧ w'.cell? ⟨b, off + i * 4, none⟩ = some (.int .i64 (cs.getD i c0V).e) ∧ w'.cell? ⟨b, off + i * 4 + 1, none⟩ = some (.int .i64 (cs.getD i c0V).p) ∧
      w'.cell? ⟨b, off + i * 4 + 2, none⟩ = some (.int .i64 (cs.getD i c0V).f) ∧ w'.cell? ⟨b, off + i * 4 + 3, none⟩ = some (.bool (cs.getD i c0V).b) := (h.gnone hg hB).at_ hi
theorem isCached_c (e p f : Int) (b : Bool) (w : World) : Calls Try.prog 25 #[.agg #[.int .i64 e, .int .i64 p, .int .i64 f, .bool b]] w fun en w' => en = .returned (.bool (inR e 0 2 && (inR p 0 15 && inR f 0 11))) ∧ w.grownBy w' none := by
  go_enter Try.func25, Try.ntmps25
  rcases h1 : inR e 0 2
  · go_wp2_with (first | (go_at_call 38; refine (isEnv_c _ _).mono ?_; rintro e w' ⟨rfl, rfl⟩) | (go_at_call 39; refine (isPage_c _ _).mono ?_; rintro e w' ⟨rfl, rfl⟩) | (go_at_call 40; refine (isFrame_c _ _).mono ?_; rintro e w' ⟨rfl, rfl⟩))
    go_ret
    exact ⟨rfl, World.grownBy_alloc _ _ _⟩
  · rcases h2 : inR p 0 15
    · go_wp2_with (first | (go_at_call 38; refine (isEnv_c _ _).mono ?_; rintro e w' ⟨rfl, rfl⟩) | (go_at_call 39; refine (isPage_c _ _).mono ?_; rintro e w' ⟨rfl, rfl⟩) | (go_at_call 40; refine (isFrame_c _ _).mono ?_; rintro e w' ⟨rfl, rfl⟩))
      go_ret
      exact ⟨rfl, World.grownBy_alloc _ _ _⟩
    · go_wp2_with (first | (go_at_call 38; refine (isEnv_c _ _).mono ?_; rintro e w' ⟨rfl, rfl⟩) | (go_at_call 39; refine (isPage_c _ _).mono ?_; rintro e w' ⟨rfl, rfl⟩) | (go_at_call 40; refine (isFrame_c _ _).mono ?_; rintro e w' ⟨rfl, rfl⟩))
      go_ret
      exact ⟨rfl, World.grownBy_alloc _ _ _⟩
theorem l4Cached_c (e p f : Int) (b : Bool) (w : World) : Calls Try.prog 27 #[.agg #[.int .i64 e, .int .i64 p, .int .i64 f, .bool b]] w fun en w' => en = .returned (.bool (inR e 0 2 && (inR p 0 15 && inR f 0 11))) ∧ w.grownBy w' none := by
  go_enter Try.func27, Try.ntmps27
  rcases h1 : inR e 0 2
  · go_wp2_with (first | (go_at_call 43; refine (l4Env_c _ _).mono ?_; rintro e w' ⟨rfl, rfl⟩) | (go_at_call 44; refine (l6In_c _ _ _ _).mono ?_; rintro e w' ⟨rfl, rfl⟩) | (go_at_call 45; refine (l1Frame_c _ _).mono ?_; rintro e w' ⟨rfl, rfl⟩))
    go_ret
    exact ⟨rfl, World.grownBy_alloc _ _ _⟩
  · rcases h2 : inR p 0 15
    · go_wp2_with (first | (go_at_call 43; refine (l4Env_c _ _).mono ?_; rintro e w' ⟨rfl, rfl⟩) | (go_at_call 44; refine (l6In_c _ _ _ _).mono ?_; rintro e w' ⟨rfl, rfl⟩) | (go_at_call 45; refine (l1Frame_c _ _).mono ?_; rintro e w' ⟨rfl, rfl⟩))
      go_ret
      exact ⟨rfl, World.grownBy_alloc _ _ _⟩
    · go_wp2_with (first | (go_at_call 43; refine (l4Env_c _ _).mono ?_; rintro e w' ⟨rfl, rfl⟩) | (go_at_call 44; refine (l6In_c _ _ _ _).mono ?_; rintro e w' ⟨rfl, rfl⟩) | (go_at_call 45; refine (l1Frame_c _ _).mono ?_; rintro e w' ⟨rfl, rfl⟩))
      go_ret
      exact ⟨rfl, World.grownBy_alloc _ _ _⟩
/-- What a function value answers: a question on a translation; blocks may be laid. -/
def Asks (g : Nat) (lb : Array Value) (q : CachedV → Bool) (w : World) : Prop :=
  ∀ (W : World) (c : CachedV), w.grownBy W none → Calls Try.prog g (#[.agg #[.int .i64 c.e, .int .i64 c.p, .int .i64 c.f, .bool c.b]] ++ lb) W fun en W' => en = .returned (.bool (q c)) ∧ W.grownBy W' none
theorem cached1_c (B0 B1 : Nat) (e p : Int) (w : World) (h0 : w.cell? ⟨B0, 0, none⟩ = some (.int .i64 e)) (h1 : w.cell? ⟨B1, 0, none⟩ = some (.int .i64 p)) :
    Asks 42 #[.pointer (some ⟨B0, 0, none⟩), .pointer (some ⟨B1, 0, none⟩)] (hit e p) w := by
  intro W c hg
  have h0' := hg.cell h0 (by simp)
  have h1' := hg.cell h1 (by simp)
  obtain ⟨ce, cp, cf, cb⟩ := c
  have HH : Hid (hit e p ⟨ce, cp, cf, cb⟩ = ((ce == e) && (cp == p))) := rfl
  clear h0 h1 hg
  show Calls Try.prog 42 #[.agg #[.int .i64 ce, .int .i64 cp, .int .i64 cf, .bool cb], .pointer (some ⟨B0, 0, none⟩), .pointer (some ⟨B1, 0, none⟩)] W _
  have hl0 : B0 < W.heap.size := World.block_lt_of_cell? W _ h0'
  have hl1 : B1 < W.heap.size := World.block_lt_of_cell? W _ h1'
  go_enter Try.func42, Try.ntmps42
  rcases he : (ce == e)
  · go_wp2
    go_ret
    exact ⟨by rw [HH.out, he]; rfl, World.grownBy_alloc _ _ _⟩
  · go_wp2
    go_ret
    exact ⟨by rw [HH.out, he]; rfl, World.grownBy_alloc _ _ _⟩
set_option maxHeartbeats 400000 in
theorem indexFunc_c (g : Nat) (lb : Array Value) (q : CachedV → Bool) (B : Nat) (a : Option Addr) (cap : Nat) (cs : List CachedV) (w : World) (eg : ∀ args w, (callFunc g args).run Try.prog w = .ok (.enter g args) w)
    (hp : Asks g lb q w) (h : Caches w B a cs) (hB : B ≤ w.heap.size) (hm : cs.length ≤ 1048576) :
    Calls Try.prog 41 #[.slice a cs.length cap, .func (.func g) #[] lb] w fun en w' => en = .returned (.int .i64 (fndP q cs)) ∧ w.grownBy w' none := by
  have H := Lib.hid h
  have HP := Lib.hid hp
  clear h hp
  go_enter Try.func41, Try.ntmps41
  go_wp2
  go_loopw [8] (fun i wr => ∃ k : Nat, k ≤ cs.length ∧ i = .int .i64 k ∧ w.grownBy wr none ∧ Hid (∀ j, j < k → q (cs.getD j c0V) = false)) (fun i _ => cs.length - (intOf i).toNat)
  case atStart => exact ⟨0, Nat.zero_le _, rfl, grown_refl _ _, fun j hj => absurd hj (Nat.not_lt_zero _)⟩
  case round =>
    obtain ⟨k, hk, rfl, hg, hI⟩ := hrel
    by_cases hlt : k < cs.length
    · obtain ⟨b, off, rfl, hb, c0, c1, c2, c3⟩ := H.out.at4 hB hg hlt
      have HG := Lib.hid hg
      have HX : Hid (q (cs.getD k c0V) = false → ∀ j, j < k + 1 → q (cs.getD j c0V) = false) := by
        intro e j hj
        by_cases hjk : j = k
        · subst hjk; exact e
        · exact hI.out j (by omega)
      have HY : Hid (q (cs.getD k c0V) = true → fndP q cs = k) := fun e => fndP_at hlt e hI.out
      clear hg
      generalize cs.getD k c0V = c at *
      rcases he : q c
      · have HZ := Lib.hid (HX.out he)
        go_wp2_with (go_at_fn g; refine (HP.out _ c HG.out).mono ?_; rintro e w' ⟨rfl, hg2⟩)
        have HG2 := Lib.hid hg2
        clear hg2
        go_wp2_with fail
        go_roundw
        case rel => exact ⟨k + 1, by omega, by go_num, none_trans HG.out HG2.out, HZ⟩
        case measure => simp [intOf]; omega
      · have HZ := Lib.hid (HY.out he)
        go_wp2_with (go_at_fn g; refine (HP.out _ c HG.out).mono ?_; rintro e w' ⟨rfl, hg2⟩)
        have HG2 := Lib.hid hg2
        clear hg2
        go_wp2_with fail
        go_ret
        exact ⟨by rw [HZ.out]; rfl, none_trans HG.out HG2.out⟩
    · have : k = cs.length := by omega
      subst this
      have HZ : Hid (fndP q cs = -1) := fndP_none hI.out
      go_wp2_with fail
      go_ret
      exact ⟨by rw [HZ.out]; rfl, hg⟩
theorem cached_c (B : Nat) (a : Option Addr) (cap : Nat) (cs : List CachedV) (e p : Int) (w : World) (h : Caches w B a cs) (hB : B ≤ w.heap.size) (hm : cs.length ≤ 1048576) :
    Calls Try.prog 26 #[.slice a cs.length cap, .int .i64 e, .int .i64 p] w fun en w' => en = .returned (.int .i64 (fnd cs e p)) ∧ w.grownBy w' none := by
  have H := Lib.hid h
  clear h
  go_enter Try.func26, Try.ntmps26
  go_wp2_with fail
  refine (indexFunc_c 42 _ (hit e p) B a cap cs _ (enters_of Try.func42 (by kernel_rfl) rfl) (cached1_c w.heap.size (w.heap.size + 1) e p _ (by simp) (by simp)) (H.out.gnone (none_alloc (World.grownBy_alloc _ _ _) _) hB) (by simp; omega) hm).mono ?_
  rintro en w' ⟨rfl, hg⟩
  have HG := Lib.hid hg
  clear hg
  go_wp2_with fail
  go_ret
  exact ⟨rfl, none_trans (none_alloc (World.grownBy_alloc _ _ _) _) HG.out⟩
set_option maxHeartbeats 400000 in
theorem l4Find_c (a : Option Addr) (B cap : Nat) (cs : List CachedV) (e p : Int) (w : World) (h : Caches w B a cs) (hm : cs.length ≤ 1048576) :
    Calls Try.prog 28 #[.slice a cs.length cap, .int .i64 e, .int .i64 p] w fun en w' => en = .returned (.int .i64 (fnd cs e p)) ∧ w = w' := by
  have H := Lib.hid h
  clear h
  go_enter Try.func28, Try.ntmps28
  go_wp2
  go_loop [7] (fun i => ∃ k : Nat, k ≤ cs.length ∧ i = .int .i64 k ∧ Hid (∀ j, j < k → hit e p (cs.getD j c0V) = false)) (fun i => cs.length - (intOf i).toNat)
  case atStart => exact ⟨0, Nat.zero_le _, rfl, fun j hj => absurd hj (Nat.not_lt_zero _)⟩
  case round =>
    obtain ⟨k, hk, rfl, hI⟩ := hrel
    by_cases hlt : k < cs.length
    · obtain ⟨b, off, rfl, hb, c0, c1, c2, c3⟩ := H.out.at_ hlt
      have HX : Hid (hit e p (cs.getD k c0V) = false → ∀ j, j < k + 1 → hit e p (cs.getD j c0V) = false) := by
        intro e j hj
        by_cases hjk : j = k
        · subst hjk; exact e
        · exact hI.out j (by omega)
      have HY : Hid (hit e p (cs.getD k c0V) = true → fnd cs e p = k) := fun e => fnd_at hlt e hI.out
      generalize cs.getD k c0V = c at *
      obtain ⟨ce, cp, cf, cb⟩ := c
      have HH : Hid (hit e p ⟨ce, cp, cf, cb⟩ = ((ce == e) && (cp == p))) := rfl
      rcases h1 : (ce == e)
      · have HZ : Hid (∀ j, j < k + 1 → hit e p (cs.getD j c0V) = false) := HX.out (by rw [HH.out, h1]; rfl)
        go_wp2
        go_round
        case rel => exact ⟨k + 1, by omega, by go_num, HZ⟩
        case measure => simp [intOf]; omega
      · rcases h2 : (cp == p)
        · have HZ : Hid (∀ j, j < k + 1 → hit e p (cs.getD j c0V) = false) := HX.out (by rw [HH.out, h1, h2]; rfl)
          go_wp2
          go_round
          case rel => exact ⟨k + 1, by omega, by go_num, HZ⟩
          case measure => simp [intOf]; omega
        · have HZ : Hid (fnd cs e p = k) := HY.out (by rw [HH.out, h1, h2]; rfl)
          go_wp2
          go_ret
          exact ⟨by rw [HZ.out]; rfl, rfl⟩
    · have : k = cs.length := by omega
      subst this
      have HZ : Hid (fnd cs e p = -1) := fnd_none hI.out
      go_wp2
      go_ret
      exact ⟨by rw [HZ.out]; rfl, rfl⟩
end Go.Proofs.Ythgdhikgknmioaa
