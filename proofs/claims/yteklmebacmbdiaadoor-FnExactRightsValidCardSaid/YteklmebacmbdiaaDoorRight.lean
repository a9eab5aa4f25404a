/-
  Contracts of the functions on rights. No conditions.
-/
import Derived.Test.YteklmebacmbdiaaDoorRd
import Derived.Test.YteklmebacmbdiaaDoorLays
import Derived.Shelf.Strings.SlTrimAscii
namespace Go.Proofs.YteklmebacmbdiaaDoor
open Go.RowKit Go.Shelf Go.Lib

/-- Is it one of the three letters? -/
def okL (b : UInt8) : Bool := decide (97 ≤ (b.toNat : Int)) && decide ((b.toNat : Int) ≤ 99)
def rvB (s : ByteArray) : Bool := decide (s.size ≤ 4) && s.data.toList.all okL
theorem okL_in (b : UInt8) : ([97, 98, 99] : List UInt8).contains b = okL b := by
  unfold okL
  rw [Bool.eq_iff_iff]
  simp only [List.contains_cons, List.contains_nil, Bool.or_false, Bool.or_eq_true, beq_iff_eq, Bool.and_eq_true, decide_eq_true_eq]
  constructor
  · rintro (h | h | h) <;> subst h <;> decide
  · rintro ⟨h1, h2⟩
    have h3 : b.toNat = 97 ∨ b.toNat = 98 ∨ b.toNat = 99 := by omega
    rcases h3 with h | h | h
    · left; exact UInt8.toNat_inj.1 h
    · right; left; exact UInt8.toNat_inj.1 h
    · right; right; exact UInt8.toNat_inj.1 h
theorem drop_nil (m : List UInt8) : m.dropWhile (([97, 98, 99] : List UInt8).contains ·) = [] ↔ m.all okL = true := by
  induction m with
  | nil => simp
  | cons a m ih =>
    rw [List.dropWhile_cons, okL_in a, List.all_cons]
    rcases h : okL a
    · simp
    · simpa using ih
theorem drop_all (m : List UInt8) (h : (m.dropWhile (([97, 98, 99] : List UInt8).contains ·)).all okL = true) : m.dropWhile (([97, 98, 99] : List UInt8).contains ·) = [] := by
  induction m with
  | nil => rfl
  | cons a m ih =>
    rw [List.dropWhile_cons, okL_in a] at h ⊢
    rcases ha : okL a
    · rw [ha] at h
      simp [ha] at h
    · rw [ha] at h
      simp only [if_true] at h ⊢
      exact ih h
theorem trim_nil (l : List UInt8) : Lib.trimS l [97, 98, 99] = [] ↔ l.all okL = true := by
  unfold Lib.trimS Lib.trimLeftS Lib.trimRightS
  rw [drop_nil, List.all_reverse]
  constructor
  · intro h
    have h2 := (drop_nil l.reverse).1 (drop_all _ h)
    rwa [List.all_reverse] at h2
  · intro h
    have h2 := (drop_nil l.reverse).2 (by rw [List.all_reverse]; exact h)
    rw [h2]
    rfl
set_option maxHeartbeats 1000000 in
theorem implRightValid_c (s : ByteArray) (w : World) (hs : s.size ≤ 9223372036854775807) :
    Calls Tryd.prog 9 #[.string s] w fun e w' => e = .returned (.bool (rvB s)) ∧ Below w.heap.size w w' := by
  have hcon := Any.strings_Trim_laid Tryd.laysTrim (by kernel_rfl) s ⟨#[97, 98, 99]⟩ w hs (by decide) (ascii_of_all (by decide))
  change Calls Tryd.prog 19 _ _ (fun e w' => e = .returned (.string ⟨(Lib.trimS s.data.toList [97, 98, 99]).toArray⟩) ∧ Below w.heap.size w w') at hcon
  by_cases h4 : s.size ≤ 4
  · have h4' : (s.size : Int) ≤ 4 := by omega
    rcases hall : s.data.toList.all okL
    · have HZ : Hid (rvB s = false) := by show _ = _; unfold rvB; rw [hall, Bool.and_false]
      have hne : Lib.trimS s.data.toList [97, 98, 99] ≠ [] := fun e => by have := (trim_nil _).1 e; rw [hall] at this; cases this
      generalize Lib.trimS s.data.toList [97, 98, 99] = r at *
      have HE0 : Hid (r.isEmpty = false) := by show _ = _; cases r with
        | nil => exact absurd rfl hne
        | cons => rfl
      have HC := Lib.hid hcon
      clear hcon hall hne
      go_enter Tryd.func9, Tryd.ntmps9
      go_wp2_with fail
      refine HC.out.mono ?_
      rintro e w1 ⟨rfl, hB⟩
      have HB := Lib.hid hB
      clear hB
      go_wp2_with fail
      go_ret
      exact ⟨by rw [HZ.out]; show Ending.returned (.bool r.isEmpty) = _; rw [HE0.out], HB.out⟩
    · have HZ : Hid (rvB s = true) := by show _ = _; unfold rvB; rw [hall, decide_eq_true h4]; rfl
      have he : Lib.trimS s.data.toList [97, 98, 99] = [] := (trim_nil _).2 hall
      rw [he] at hcon
      have HC := Lib.hid hcon
      clear hcon hall he
      go_enter Tryd.func9, Tryd.ntmps9
      go_wp2_with fail
      refine HC.out.mono ?_
      rintro e w1 ⟨rfl, hB⟩
      have HB := Lib.hid hB
      clear hB
      go_wp2_with fail
      go_ret
      exact ⟨by rw [HZ.out]; rfl, HB.out⟩
  · have h4' : ¬ (s.size : Int) ≤ 4 := by omega
    have HZ : Hid (rvB s = false) := by show _ = _; unfold rvB; rw [decide_eq_false h4]; rfl
    clear hcon
    go_enter Tryd.func9, Tryd.ntmps9
    go_wp2_with fail
    go_ret
    exact ⟨by rw [HZ.out]; rfl, Below.refl _ _⟩
theorem take_ba (s : ByteArray) (k : Nat) (h : k < s.size) : s.data.toList.take (k + 1) = s.data.toList.take k ++ [s[k]] := by
  rw [List.take_succ_eq_append_getElem (by simpa using h)]; rfl
set_option maxHeartbeats 1000000 in
theorem specRightValid_c (s : ByteArray) (w : World) (hs : s.size ≤ 1048576) :
    Calls Tryd.prog 8 #[.string s] w fun e w' => e = .returned (.bool (rvB s)) ∧ w = w' := by
  go_enter Tryd.func8, Tryd.ntmps8
  go_wp2
  go_loop [3] (fun i => ∃ k : Nat, k ≤ s.size ∧ i = .int .i64 k ∧ Hid ((s.data.toList.take k).all okL = true)) (fun i => s.size - (Go.RowKit.intOf i).toNat)
  case atStart => exact ⟨0, Nat.zero_le _, rfl, rfl⟩
  case round =>
    obtain ⟨k, hk, rfl, HI⟩ := hrel
    by_cases hlt : k < s.size
    · have HT := Lib.hid (take_ba s k hlt)
      have HB : Hid (okL s[k] = (decide (97 ≤ (s[k].toNat : Int)) && decide ((s[k].toNat : Int) ≤ 99))) := rfl
      have HBad : Hid (okL s[k] = false → rvB s = false) := fun h => by
        unfold rvB
        have : s.data.toList.all okL = false := by
          rw [List.all_eq_false]
          exact ⟨s[k], by show s.data[k] ∈ _; simp, by rw [h]; decide⟩
        rw [this, Bool.and_false]
      by_cases h1 : (s[k].toNat : Int) < 97
      · have HZ : Hid (rvB s = false) := HBad.out (by rw [HB.out, decide_eq_false (by omega)]; rfl)
        go_wp2
        go_ret
        exact ⟨by rw [HZ.out]; rfl, rfl⟩
      · by_cases h2 : 99 < (s[k].toNat : Int)
        · have HZ : Hid (rvB s = false) := HBad.out (by rw [HB.out, decide_eq_false (show ¬ (s[k].toNat : Int) ≤ 99 by omega), Bool.and_false])
          go_wp2
          go_ret
          exact ⟨by rw [HZ.out]; rfl, rfl⟩
        · have HZ : Hid (okL s[k] = true) := by show _ = _; rw [HB.out, decide_eq_true (by omega), decide_eq_true (by omega)]; rfl
          go_wp2
          go_round
          case rel => exact ⟨k + 1, by omega, by go_num, by show _ = _; rw [HT.out, List.all_append, HI.out, List.all_cons, HZ.out]; rfl⟩
          case measure => simp [Go.RowKit.intOf]; omega
    · have hks : k = s.size := by omega
      have HA : Hid (s.data.toList.all okL = true) := by
        have := HI.out
        rw [hks, List.take_of_length_le (by simp)] at this
        exact this
      clear hks
      by_cases h4 : s.size ≤ 4
      · have h4' : (s.size : Int) ≤ 4 := by omega
        have HZ : Hid (rvB s = true) := by show _ = _; unfold rvB; rw [HA.out, decide_eq_true h4]; rfl
        go_wp2
        go_ret
        exact ⟨by rw [HZ.out]; rfl, rfl⟩
      · have h4' : ¬ (s.size : Int) ≤ 4 := by omega
        have HZ : Hid (rvB s = false) := by show _ = _; unfold rvB; rw [decide_eq_false h4]; rfl
        go_wp2
        go_ret
        exact ⟨by rw [HZ.out]; rfl, rfl⟩
/-- Does a text begin with another one? -/
def covB (a b : ByteArray) : Bool := decide (a.size ≤ b.size) && (b.extract 0 a.size).toList == a.toList
set_option maxHeartbeats 1000000 in
theorem l11Covers_c (a b : ByteArray) (w : World) (_ha : a.size ≤ 9223372036854775807) (_hb : b.size ≤ 9223372036854775807) :
    Calls Tryd.prog 20 #[.string a, .string b] w fun e w' => e = .returned (.bool (covB a b)) ∧ w = w' := by
  by_cases h : a.size ≤ b.size
  · have h' : (a.size : Int) ≤ (b.size : Int) := by omega
    have HZ : Hid (covB a b = ((b.extract 0 a.size).toList == a.toList)) := by show _ = _; unfold covB; rw [decide_eq_true h]; rfl
    go_enter Tryd.func20, Tryd.ntmps20
    go_wp2
    go_ret
    exact ⟨by rw [HZ.out]; rfl, rfl⟩
  · have h' : ¬ (a.size : Int) ≤ (b.size : Int) := by omega
    have HZ : Hid (covB a b = false) := by show _ = _; unfold covB; rw [decide_eq_false h]; rfl
    go_enter Tryd.func20, Tryd.ntmps20
    go_wp2
    go_ret
    exact ⟨by rw [HZ.out]; rfl, rfl⟩
set_option maxHeartbeats 1000000 in
theorem hasPrefix_c (b a : ByteArray) (w : World) (_ha : a.size ≤ 9223372036854775807) (_hb : b.size ≤ 9223372036854775807) :
    Calls Tryd.prog 21 #[.string b, .string a] w fun e w' => e = .returned (.bool (covB a b)) ∧ w = w' := by
  by_cases h : a.size ≤ b.size
  · have h' : (a.size : Int) ≤ (b.size : Int) := by omega
    have HZ : Hid (covB a b = ((b.extract 0 a.size).toList == a.toList)) := by show _ = _; unfold covB; rw [decide_eq_true h]; rfl
    go_enter Tryd.func21, Tryd.ntmps21
    go_wp2
    go_ret
    exact ⟨by rw [HZ.out]; rfl, rfl⟩
  · have h' : ¬ (a.size : Int) ≤ (b.size : Int) := by omega
    have HZ : Hid (covB a b = false) := by show _ = _; unfold covB; rw [decide_eq_false h]; rfl
    go_enter Tryd.func21, Tryd.ntmps21
    go_wp2
    go_ret
    exact ⟨by rw [HZ.out]; rfl, rfl⟩
/-- Both are rights, and the first includes the second. -/
def rcB (a b : ByteArray) : Bool := rvB a && (rvB b && covB a b)
set_option maxHeartbeats 1000000 in
theorem implRightCovers_c (a b : ByteArray) (w : World) (ha : a.size ≤ 1048576) (hb : b.size ≤ 1048576) :
    Calls Tryd.prog 11 #[.string a, .string b] w fun e w' => e = .returned (.bool (rcB a b)) ∧ Below w.heap.size w w' := by
  rcases h1 : rvB a
  · have HZ : Hid (rcB a b = false) := by show _ = _; unfold rcB; rw [h1]; rfl
    go_enter Tryd.func11, Tryd.ntmps11
    go_wp2_with fail
    refine (implRightValid_c a _ (by omega)).mono ?_
    rintro e w1 ⟨rfl, hB⟩
    rw [h1]
    have HB := Lib.hid hB
    clear hB h1
    go_wp2_with fail
    go_ret
    exact ⟨by rw [HZ.out]; rfl, HB.out⟩
  · rcases h2 : rvB b
    · have HZ : Hid (rcB a b = false) := by show _ = _; unfold rcB; rw [h1, h2]; rfl
      go_enter Tryd.func11, Tryd.ntmps11
      go_wp2_with fail
      refine (implRightValid_c a _ (by omega)).mono ?_
      rintro e w1 ⟨rfl, hB⟩
      rw [h1]
      have HB := Lib.hid hB
      clear hB h1
      go_wp2_with fail
      refine (implRightValid_c b _ (by omega)).mono ?_
      rintro e w2 ⟨rfl, hB⟩
      rw [h2]
      have HB2 := Lib.hid (HB.out.trans (hB.mono HB.out.size))
      clear hB h2
      go_wp2_with fail
      go_ret
      exact ⟨by rw [HZ.out]; rfl, HB2.out⟩
    · have HZ : Hid (rcB a b = covB a b) := by show _ = _; unfold rcB; rw [h1, h2]; rfl
      go_enter Tryd.func11, Tryd.ntmps11
      go_wp2_with fail
      refine (implRightValid_c a _ (by omega)).mono ?_
      rintro e w1 ⟨rfl, hB⟩
      rw [h1]
      have HB := Lib.hid hB
      clear hB h1
      go_wp2_with fail
      refine (implRightValid_c b _ (by omega)).mono ?_
      rintro e w2 ⟨rfl, hB⟩
      rw [h2]
      have HB2 := Lib.hid (HB.out.trans (hB.mono HB.out.size))
      clear hB h2
      go_wp2_with fail
      refine (hasPrefix_c b a _ (by omega) (by omega)).mono ?_
      rintro e w' ⟨rfl, rfl⟩
      generalize covB a b = c at *
      go_wp2_with fail
      go_ret
      exact ⟨by rw [HZ.out]; rfl, HB2.out⟩
set_option maxHeartbeats 1000000 in
theorem specRightCovers_c (a b : ByteArray) (w : World) (ha : a.size ≤ 1048576) (hb : b.size ≤ 1048576) :
    Calls Tryd.prog 10 #[.string a, .string b] w fun e w' => e = .returned (.bool (rcB a b)) ∧ w = w' := by
  rcases h1 : rvB a
  · have HZ : Hid (rcB a b = false) := by show _ = _; unfold rcB; rw [h1]; rfl
    go_enter Tryd.func10, Tryd.ntmps10
    go_wp2_with fail
    refine (specRightValid_c a _ ha).mono ?_
    rintro e w' ⟨rfl, rfl⟩
    rw [h1]
    clear h1
    go_wp2_with fail
    go_ret
    exact ⟨by rw [HZ.out]; rfl, rfl⟩
  · rcases h2 : rvB b
    · have HZ : Hid (rcB a b = false) := by show _ = _; unfold rcB; rw [h1, h2]; rfl
      go_enter Tryd.func10, Tryd.ntmps10
      go_wp2_with fail
      refine (specRightValid_c a _ ha).mono ?_
      rintro e w' ⟨rfl, rfl⟩
      rw [h1]
      clear h1
      go_wp2_with fail
      refine (specRightValid_c b _ hb).mono ?_
      rintro e w' ⟨rfl, rfl⟩
      rw [h2]
      clear h2
      go_wp2_with fail
      go_ret
      exact ⟨by rw [HZ.out]; rfl, rfl⟩
    · have HZ : Hid (rcB a b = covB a b) := by show _ = _; unfold rcB; rw [h1, h2]; rfl
      go_enter Tryd.func10, Tryd.ntmps10
      go_wp2_with fail
      refine (specRightValid_c a _ ha).mono ?_
      rintro e w' ⟨rfl, rfl⟩
      rw [h1]
      clear h1
      go_wp2_with fail
      refine (specRightValid_c b _ hb).mono ?_
      rintro e w' ⟨rfl, rfl⟩
      rw [h2]
      clear h2
      go_wp2_with fail
      refine (l11Covers_c a b _ (by omega) (by omega)).mono ?_
      rintro e w' ⟨rfl, rfl⟩
      generalize covB a b = c at *
      go_wp2_with fail
      go_ret
      exact ⟨by rw [HZ.out]; rfl, rfl⟩
end Go.Proofs.YteklmebacmbdiaaDoor
