/-
  Contracts of the functions on memories that only read. No conditions.
-/
import Derived.Test.YtjmlfjpocjmnpaaMemRd
namespace Go.Proofs.Ytjmlfjpocjmnpaa
open Go.RowKit

theorem isWords1_c (n : Int) (w : World) : Calls Try.prog 47 #[.int .i64 n] w fun e w' => e = .returned (.bool (!inR n 0 9999)) ∧ w = w' := by
  go_enter Try.func47, Try.ntmps47
  go_wp2_with (go_at_call 42; refine (isWord_c _ _).mono ?_; rintro e w' ⟨rfl, rfl⟩)
  go_ret
  exact ⟨rfl, rfl⟩
/-- What a search says: whether something is found. -/
def Found (b : Bool) (w : World) (e : Ending) (w' : World) : Prop := ∃ r : Int, e = .returned (.int .i64 r) ∧ decide (0 ≤ r) = b ∧ w = w'
set_option maxHeartbeats 400000 in
theorem indexInts_c (a : Option Addr) (cap : Nat) (l : List Int) (w : World) (h : Ints w a l) (hm : l.length ≤ 1048576) :
    Calls Try.prog 51 #[.slice a l.length cap, .func (.func 47) #[] #[]] w (Found (!l.all fun n => inR n 0 9999) w) := by
  have H := Lib.hid h
  clear h
  go_enter Try.func51, Try.ntmps51
  go_wp2
  go_loop [8] (fun i => ∃ k : Nat, k ≤ l.length ∧ i = .int .i64 k ∧ Hid (∀ j, j < k → inR (l.getD j 0) 0 9999 = true)) (fun i => l.length - (intOf i).toNat)
  case atStart => exact ⟨0, Nat.zero_le _, rfl, fun j hj => absurd hj (Nat.not_lt_zero _)⟩
  case round =>
    obtain ⟨k, hk, rfl, hI⟩ := hrel
    by_cases hlt : k < l.length
    · rcases H.out with h0 | ⟨b, off, rfl, hc⟩
      · rw [h0] at hlt; simp at hlt
      have hc1 := hc k hlt
      have HX : Hid (inR (l.getD k 0) 0 9999 = true → ∀ j, j < k + 1 → inR (l.getD j 0) 0 9999 = true) := by
        intro e j hj
        by_cases hjk : j = k
        · subst hjk; exact e
        · exact hI.out j (by omega)
      have HY : Hid (inR (l.getD k 0) 0 9999 = false → (!l.all fun n => inR n 0 9999) = true) := by
        intro e
        rw [all_no hlt e]; rfl
      clear hc
      generalize l.getD k 0 = x at *
      rcases he : inR x 0 9999
      · have HZ := Lib.hid (HY.out he)
        go_wp2_with (go_at_call 47; refine (isWords1_c _ _).mono ?_; rintro e w' ⟨rfl, rfl⟩)
        go_ret
        exact ⟨k, rfl, by rw [HZ.out]; simp, rfl⟩
      · have HZ := Lib.hid (HX.out he)
        go_wp2_with (go_at_call 47; refine (isWords1_c _ _).mono ?_; rintro e w' ⟨rfl, rfl⟩)
        go_round
        case rel => exact ⟨k + 1, by omega, by go_num, HZ⟩
        case measure => simp [intOf]; omega
    · have : k = l.length := by omega
      subst this
      have HZ : Hid ((!l.all fun n => inR n 0 9999) = false) := by
        show _ = _
        rw [all_yes hI.out]; rfl
      go_wp2
      go_ret
      exact ⟨-1, rfl, by rw [HZ.out]; rfl, rfl⟩
theorem containsInts_c (a : Option Addr) (cap : Nat) (l : List Int) (w : World) (h : Ints w a l) (hm : l.length ≤ 1048576) :
    Calls Try.prog 46 #[.slice a l.length cap, .func (.func 47) #[] #[]] w fun e w' => e = .returned (.bool (!l.all fun n => inR n 0 9999)) ∧ w = w' := by
  have H := Lib.hid h
  clear h
  go_enter Try.func46, Try.ntmps46
  go_wp2_with fail
  refine (indexInts_c a cap l _ H.out hm).mono ?_
  rintro e w' ⟨r, rfl, hr, rfl⟩
  have HR := Lib.hid hr
  clear hr
  go_wp2
  go_ret
  exact ⟨by rw [← HR.out]; rfl, rfl⟩
set_option maxHeartbeats 400000 in
theorem isWords_c (a : Option Addr) (cap : Nat) (l : List Int) (w : World) (h : Ints w a l) (hm : l.length ≤ 1048576) :
    Calls Try.prog 30 #[.slice a l.length cap] w fun e w' => e = .returned (.bool (wdB l)) ∧ w = w' := by
  have H := Lib.hid h
  clear h
  by_cases h4 : l.length = 4
  · have hb : ((l.length : Int) == 4) = true := by rw [beq_iff_eq]; omega
    have HE : Hid (wdB l = l.all fun n => inR n 0 9999) := by show _ = _; unfold wdB; rw [h4]; simp
    clear h4
    go_enter Try.func30, Try.ntmps30
    go_wp2_with (go_at_call 46; refine (containsInts_c a cap l _ H.out hm).mono ?_; rintro e w' ⟨rfl, rfl⟩)
    go_ret
    exact ⟨by rw [HE.out]; rfl, rfl⟩
  · have hb : ((l.length : Int) == 4) = false := by rw [beq_eq_false_iff_ne]; omega
    have HE : Hid (wdB l = false) := by show _ = _; unfold wdB; simp [h4]
    clear h4
    go_enter Try.func30, Try.ntmps30
    go_wp2_with (go_at_call 46; refine (containsInts_c a cap l _ H.out hm).mono ?_; rintro e w' ⟨rfl, rfl⟩)
    go_ret
    exact ⟨by rw [HE.out]; rfl, rfl⟩
theorem memoryValid1_c (a : Option Addr) (cap : Nat) (l : List Int) (w : World) (h : Ints w a l) (hm : l.length ≤ 1048576) :
    Calls Try.prog 29 #[.slice a l.length cap] w fun e w' => e = .returned (.bool (!wdB l)) ∧ w = w' := by
  have H := Lib.hid h
  clear h
  go_enter Try.func29, Try.ntmps29
  go_wp2_with (go_at_call 30; refine (isWords_c a cap l _ H.out hm).mono ?_; rintro e w' ⟨rfl, rfl⟩)
  go_ret
  exact ⟨rfl, rfl⟩
set_option maxHeartbeats 400000 in
theorem indexRows_c (B : Nat) (a : Option Addr) (cap : Nat) (ls : List (List Int)) (w : World) (h : Mem w B a ls) (hs : Small ls) :
    Calls Try.prog 45 #[.slice a ls.length cap, .func (.func 29) #[] #[]] w (Found (!ls.all wdB) w) := by
  have H := Lib.hid h
  have HS := Lib.hid hs
  have hm := hs.len
  clear h hs
  go_enter Try.func45, Try.ntmps45
  go_wp2
  go_loop [8] (fun i => ∃ k : Nat, k ≤ ls.length ∧ i = .int .i64 k ∧ Hid (∀ j, j < k → wdB (ls.getD j []) = true)) (fun i => ls.length - (intOf i).toNat)
  case atStart => exact ⟨0, Nat.zero_le _, rfl, fun j hj => absurd hj (Nat.not_lt_zero _)⟩
  case round =>
    obtain ⟨k, hk, rfl, hI⟩ := hrel
    by_cases hlt : k < ls.length
    · obtain ⟨b, off, rfl, _, ra, rc, hc1, _, hi1⟩ := H.out.at_ hlt
      have HI1 := Lib.hid hi1.ints
      have hr1 := HS.out.row k
      clear hi1
      have HX : Hid (wdB (ls.getD k []) = true → ∀ j, j < k + 1 → wdB (ls.getD j []) = true) := by
        intro e j hj
        by_cases hjk : j = k
        · subst hjk; exact e
        · exact hI.out j (by omega)
      have HY : Hid (wdB (ls.getD k []) = false → (!ls.all wdB) = true) := by
        intro e
        rw [allL_no hlt e]; rfl
      generalize ls.getD k [] = x at *
      rcases he : wdB x
      · have HZ := Lib.hid (HY.out he)
        go_wp2_with (go_at_call 29; refine (memoryValid1_c _ _ x _ HI1.out hr1).mono ?_; rintro e w' ⟨rfl, rfl⟩)
        go_ret
        exact ⟨k, rfl, by rw [HZ.out]; simp, rfl⟩
      · have HZ := Lib.hid (HX.out he)
        go_wp2_with (go_at_call 29; refine (memoryValid1_c _ _ x _ HI1.out hr1).mono ?_; rintro e w' ⟨rfl, rfl⟩)
        go_round
        case rel => exact ⟨k + 1, by omega, by go_num, HZ⟩
        case measure => simp [intOf]; omega
    · have : k = ls.length := by omega
      subst this
      have HZ : Hid ((!ls.all wdB) = false) := by
        show _ = _
        rw [allL_yes hI.out]; rfl
      go_wp2
      go_ret
      exact ⟨-1, rfl, by rw [HZ.out]; rfl, rfl⟩
theorem containsRows_c (B : Nat) (a : Option Addr) (cap : Nat) (ls : List (List Int)) (w : World) (h : Mem w B a ls) (hs : Small ls) :
    Calls Try.prog 28 #[.slice a ls.length cap, .func (.func 29) #[] #[]] w fun e w' => e = .returned (.bool (!ls.all wdB)) ∧ w = w' := by
  have H := Lib.hid h
  have HS := Lib.hid hs
  clear h hs
  go_enter Try.func28, Try.ntmps28
  go_wp2_with fail
  refine (indexRows_c B a cap ls _ H.out HS.out).mono ?_
  rintro e w' ⟨r, rfl, hr, rfl⟩
  have HR := Lib.hid hr
  clear hr
  go_wp2
  go_ret
  exact ⟨by rw [← HR.out]; rfl, rfl⟩
set_option maxHeartbeats 400000 in
theorem implMemoryValid_c (B : Nat) (a : Option Addr) (cap : Nat) (ls : List (List Int)) (w : World) (h : Mem w B a ls) (hs : Small ls) :
    Calls Try.prog 10 #[.slice a ls.length cap] w fun e w' => e = .returned (.bool (mvB ls)) ∧ w = w' := by
  have H := Lib.hid h
  have HS := Lib.hid hs
  clear h hs
  by_cases h4 : ls.length = 12
  · have hb : ((ls.length : Int) == 12) = true := by rw [beq_iff_eq]; omega
    have HE : Hid (mvB ls = ls.all wdB) := by show _ = _; unfold mvB; rw [h4]; simp
    clear h4
    go_enter Try.func10, Try.ntmps10
    go_wp2_with (go_at_call 28; refine (containsRows_c B a cap ls _ H.out HS.out).mono ?_; rintro e w' ⟨rfl, rfl⟩)
    go_ret
    exact ⟨by rw [HE.out]; rfl, rfl⟩
  · have hb : ((ls.length : Int) == 12) = false := by rw [beq_eq_false_iff_ne]; omega
    have HE : Hid (mvB ls = false) := by show _ = _; unfold mvB; simp [h4]
    clear h4
    go_enter Try.func10, Try.ntmps10
    go_wp2_with (go_at_call 28; refine (containsRows_c B a cap ls _ H.out HS.out).mono ?_; rintro e w' ⟨rfl, rfl⟩)
    go_ret
    exact ⟨by rw [HE.out]; rfl, rfl⟩
def okB (ls : List (List Int)) (f : Int) : Bool := mvB ls && inR f 0 11
set_option maxHeartbeats 400000 in
theorem l2Ok_c (B : Nat) (a : Option Addr) (cap : Nat) (ls : List (List Int)) (f : Int) (w : World) (h : Mem w B a ls) (hs : Small ls) :
    Calls Try.prog 36 #[.slice a ls.length cap, .int .i64 f] w fun e w' => e = .returned (.bool (okB ls f)) ∧ w = w' := by
  have H := Lib.hid h
  have HS := Lib.hid hs
  clear h hs
  rcases h1 : mvB ls
  all_goals
    have HE : Hid (okB ls f = (mvB ls && inR f 0 11)) := rfl
    rw [h1] at HE
    go_enter Try.func36, Try.ntmps36
    go_wp2_with (first | (go_at_call 11; refine (specMemoryValid_c B a cap ls _ H.out HS.out).mono ?_; rintro e w' ⟨rfl, rfl⟩) | (go_at_call 40; refine (l1Frame_c _ _).mono ?_; rintro e w' ⟨rfl, rfl⟩))
    go_ret
    exact ⟨by rw [HE.out]; rfl, rfl⟩
/-- The word of a list of lists. -/
def cellM (ls : List (List Int)) (f t : Int) : Int := (ls.getD f.toNat []).getD t.toNat 0
theorem mv_shape {ls : List (List Int)} (h : mvB ls = true) : ls.length = 12 ∧ (∀ i, i < 12 → (ls.getD i []).length = 4) ∧ ∀ i j, i < 12 → j < 4 → 0 ≤ (ls.getD i []).getD j 0 ∧ (ls.getD i []).getD j 0 ≤ 9999 := by
  unfold mvB at h
  rw [Bool.and_eq_true, decide_eq_true_eq, List.all_eq_true] at h
  obtain ⟨h1, h2⟩ := h
  have hw : ∀ i, i < 12 → wdB (ls.getD i []) = true := fun i hi => h2 _ (getD_memL (by omega))
  have hw' : ∀ i, i < 12 → (ls.getD i []).length = 4 ∧ ∀ n ∈ ls.getD i [], inR n 0 9999 = true := fun i hi => by
    have := hw i hi
    unfold wdB at this
    rw [Bool.and_eq_true, decide_eq_true_eq, List.all_eq_true] at this
    exact this
  exact ⟨h1, fun i hi => (hw' i hi).1, fun i j hi hj => inR_iff.1 ((hw' i hi).2 _ (getD_mem (by rw [(hw' i hi).1]; exact hj)))⟩
theorem mv_small {ls : List (List Int)} (h : mvB ls = true) : Small ls := by
  obtain ⟨h1, h2, _⟩ := mv_shape h
  exact Small.of (by omega) (fun i hi => by rw [h2 i (by omega)]; omega)
/-- A word of a valid memory is found in the cells. -/
theorem mv_cells {w : World} {B : Nat} {a : Option Addr} {ls : List (List Int)} (h : Mem w B a ls) (hv : mvB ls = true) {f t : Int} (f0 : 0 ≤ f) (f1 : f ≤ 11) (t0 : 0 ≤ t) (t1 : t ≤ 3) :
    ∃ b off b' off' rc, a = some ⟨b, off, none⟩ ∧ w.cell? ⟨b, off + f.toNat, none⟩ = some (.slice (some ⟨b', off', none⟩) 4 rc) ∧ w.cell? ⟨b', off' + t.toNat, none⟩ = some (.int .i64 (cellM ls f t)) := by
  obtain ⟨h1, h2, _⟩ := mv_shape hv
  obtain ⟨b, off, rfl, _, ra, rc, hc, _, hi⟩ := h.at_ (i := f.toNat) (by omega)
  have hl := h2 f.toNat (by omega)
  rw [hl] at hc
  rcases hi with h0 | ⟨b', off', rfl, _, hcc⟩
  · rw [h0] at hl; cases hl
  · exact ⟨b, off, b', off', rc, rfl, hc, hcc t.toNat (by rw [hl]; omega)⟩
theorem cellM_bd {ls : List (List Int)} (hv : mvB ls = true) {f t : Int} (f0 : 0 ≤ f) (f1 : f ≤ 11) (t0 : 0 ≤ t) (t1 : t ≤ 3) : 0 ≤ cellM ls f t ∧ cellM ls f t ≤ 9999 :=
  (mv_shape hv).2.2 f.toNat t.toNat (by omega) (by omega)
def mgB (ls : List (List Int)) (f t : Int) : Bool := mvB ls && (inR f 0 11 && inR t 0 3)
def mgV (ls : List (List Int)) (f t : Int) : Int := if mgB ls f t then cellM ls f t else 0
theorem mg_cases (ls : List (List Int)) (f t : Int) : (mvB ls = false ∧ mgB ls f t = false ∧ mgV ls f t = 0) ∨ (mvB ls = true ∧ inR f 0 11 = false ∧ mgB ls f t = false ∧ mgV ls f t = 0) ∨ (mvB ls = true ∧ inR f 0 11 = true ∧ inR t 0 3 = false ∧ mgB ls f t = false ∧ mgV ls f t = 0) ∨
    (mvB ls = true ∧ inR f 0 11 = true ∧ inR t 0 3 = true ∧ mgB ls f t = true ∧ mgV ls f t = cellM ls f t) := by
  rcases h1 : mvB ls <;> rcases h2 : inR f 0 11 <;> rcases h3 : inR t 0 3 <;> simp [mgB, mgV, h1, h2, h3]
set_option maxHeartbeats 800000 in
theorem implMemoryGet_c (B : Nat) (a : Option Addr) (cap : Nat) (ls : List (List Int)) (f t : Int) (w : World) (h : Mem w B a ls) (hs : Small ls) :
    Calls Try.prog 13 #[.slice a ls.length cap, .int .i64 f, .int .i64 t] w fun e w' => e = .returned (.tuple #[.int .i64 (mgV ls f t), .bool (mgB ls f t)]) ∧ w = w' := by
  have H := Lib.hid h
  have HS := Lib.hid hs
  clear h hs
  rcases mg_cases ls f t with ⟨h1, ho, hv⟩ | ⟨h1, h2, ho, hv⟩ | ⟨h1, h2, h3, ho, hv⟩ | ⟨h1, h2, h3, ho, hv⟩
  · have HO := Lib.hid ho
    have HV := Lib.hid hv
    clear ho hv
    go_enter Try.func13, Try.ntmps13
    go_wp2_with (first | (go_at_call 10; refine (implMemoryValid_c B a cap ls _ H.out HS.out).mono ?_; rintro e w' ⟨rfl, rfl⟩) | (go_at_call 34; refine (isFrame_c _ _).mono ?_; rintro e w' ⟨rfl, rfl⟩) | (go_at_call 35; refine (isPlace_c _ _).mono ?_; rintro e w' ⟨rfl, rfl⟩))
    go_ret2
    exact ⟨by rw [HO.out, HV.out]; rfl, rfl⟩
  · have HO := Lib.hid ho
    have HV := Lib.hid hv
    clear ho hv
    go_enter Try.func13, Try.ntmps13
    go_wp2_with (first | (go_at_call 10; refine (implMemoryValid_c B a cap ls _ H.out HS.out).mono ?_; rintro e w' ⟨rfl, rfl⟩) | (go_at_call 34; refine (isFrame_c _ _).mono ?_; rintro e w' ⟨rfl, rfl⟩) | (go_at_call 35; refine (isPlace_c _ _).mono ?_; rintro e w' ⟨rfl, rfl⟩))
    go_ret2
    exact ⟨by rw [HO.out, HV.out]; rfl, rfl⟩
  · have HO := Lib.hid ho
    have HV := Lib.hid hv
    clear ho hv
    go_enter Try.func13, Try.ntmps13
    go_wp2_with (first | (go_at_call 10; refine (implMemoryValid_c B a cap ls _ H.out HS.out).mono ?_; rintro e w' ⟨rfl, rfl⟩) | (go_at_call 34; refine (isFrame_c _ _).mono ?_; rintro e w' ⟨rfl, rfl⟩) | (go_at_call 35; refine (isPlace_c _ _).mono ?_; rintro e w' ⟨rfl, rfl⟩))
    go_ret2
    exact ⟨by rw [HO.out, HV.out]; rfl, rfl⟩
  · have HO := Lib.hid ho
    have HV := Lib.hid hv
    have f0 := (inR_iff.1 h2).1
    have f1 := (inR_iff.1 h2).2
    have t0 := (inR_iff.1 h3).1
    have t1 := (inR_iff.1 h3).2
    obtain ⟨b, off, b', off', rc, ha, hc1, hc2⟩ := mv_cells H.out h1 f0 f1 t0 t1
    subst ha
    have hlen : ls.length = 12 := (mv_shape h1).1
    have hfl : f < (ls.length : Int) := by omega
    have ht4 : t < 4 := by omega
    clear ho hv hlen
    generalize cellM ls f t = x at *
    go_enter Try.func13, Try.ntmps13
    go_wp2_with (first | (go_at_call 10; refine (implMemoryValid_c B _ cap ls _ H.out HS.out).mono ?_; rintro e w' ⟨rfl, rfl⟩) | (go_at_call 34; refine (isFrame_c _ _).mono ?_; rintro e w' ⟨rfl, rfl⟩) | (go_at_call 35; refine (isPlace_c _ _).mono ?_; rintro e w' ⟨rfl, rfl⟩))
    go_ret2
    exact ⟨by rw [HO.out, HV.out]; rfl, rfl⟩
set_option maxHeartbeats 800000 in
theorem specMemoryGet_c (B : Nat) (a : Option Addr) (cap : Nat) (ls : List (List Int)) (f t : Int) (w : World) (h : Mem w B a ls) (hs : Small ls) :
    Calls Try.prog 14 #[.slice a ls.length cap, .int .i64 f, .int .i64 t] w fun e w' => e = .returned (.tuple #[.int .i64 (mgV ls f t), .bool (mgB ls f t)]) ∧ w = w' := by
  have H := Lib.hid h
  have HS := Lib.hid hs
  clear h hs
  have hk : okB ls f = (mvB ls && inR f 0 11) := rfl
  rcases mg_cases ls f t with ⟨h1, ho, hv⟩ | ⟨h1, h2, ho, hv⟩ | ⟨h1, h2, h3, ho, hv⟩ | ⟨h1, h2, h3, ho, hv⟩
  · have HO := Lib.hid ho
    have HV := Lib.hid hv
    rw [h1, Bool.false_and] at hk
    clear ho hv
    go_enter Try.func14, Try.ntmps14
    go_wp2_with (first | (go_at_call 36; refine (l2Ok_c B a cap ls _ _ H.out HS.out).mono ?_; rintro e w' ⟨rfl, rfl⟩) | (go_at_call 37; refine (l6In_c _ _ _ _).mono ?_; rintro e w' ⟨rfl, rfl⟩))
    go_ret2
    exact ⟨by rw [HO.out, HV.out]; rfl, rfl⟩
  · have HO := Lib.hid ho
    have HV := Lib.hid hv
    rw [h1, h2, Bool.true_and] at hk
    clear ho hv
    go_enter Try.func14, Try.ntmps14
    go_wp2_with (first | (go_at_call 36; refine (l2Ok_c B a cap ls _ _ H.out HS.out).mono ?_; rintro e w' ⟨rfl, rfl⟩) | (go_at_call 37; refine (l6In_c _ _ _ _).mono ?_; rintro e w' ⟨rfl, rfl⟩))
    go_ret2
    exact ⟨by rw [HO.out, HV.out]; rfl, rfl⟩
  · have HO := Lib.hid ho
    have HV := Lib.hid hv
    rw [h1, h2, Bool.true_and] at hk
    clear ho hv
    go_enter Try.func14, Try.ntmps14
    go_wp2_with (first | (go_at_call 36; refine (l2Ok_c B a cap ls _ _ H.out HS.out).mono ?_; rintro e w' ⟨rfl, rfl⟩) | (go_at_call 37; refine (l6In_c _ _ _ _).mono ?_; rintro e w' ⟨rfl, rfl⟩))
    go_ret2
    exact ⟨by rw [HO.out, HV.out]; rfl, rfl⟩
  · have HO := Lib.hid ho
    have HV := Lib.hid hv
    have f0 := (inR_iff.1 h2).1
    have f1 := (inR_iff.1 h2).2
    have t0 := (inR_iff.1 h3).1
    have t1 := (inR_iff.1 h3).2
    obtain ⟨b, off, b', off', rc, ha, hc1, hc2⟩ := mv_cells H.out h1 f0 f1 t0 t1
    subst ha
    have hlen : ls.length = 12 := (mv_shape h1).1
    have hfl : f < (ls.length : Int) := by omega
    have ht4 : t < 4 := by omega
    rw [h1, h2, Bool.true_and] at hk
    clear ho hv hlen
    generalize cellM ls f t = x at *
    go_enter Try.func14, Try.ntmps14
    go_wp2_with (first | (go_at_call 36; refine (l2Ok_c B _ cap ls _ _ H.out HS.out).mono ?_; rintro e w' ⟨rfl, rfl⟩) | (go_at_call 37; refine (l6In_c _ _ _ _).mono ?_; rintro e w' ⟨rfl, rfl⟩))
    go_ret2
    exact ⟨by rw [HO.out, HV.out]; rfl, rfl⟩
end Go.Proofs.Ytjmlfjpocjmnpaa
