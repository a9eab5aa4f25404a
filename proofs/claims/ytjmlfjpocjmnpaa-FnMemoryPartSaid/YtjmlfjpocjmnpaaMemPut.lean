/-
  Contracts of the functions that copy and change memories. No conditions.
-/
import Derived.Test.YtjmlfjpocjmnpaaMemFn
import Derived.Test.YtjmlfjpocjmnpaaMemOwn
import Derived.StillTailTactics
import Derived.Lib.SliceRun
namespace Go.Proofs.Ytjmlfjpocjmnpaa
open Go.RowKit

/-- A list with a number changed. -/
def putL (ls : List (List Int)) (f t n : Int) : List (List Int) := ls.set f.toNat ((ls.getD f.toNat []).set t.toNat n)
/-- What a change leaves: a list of lists in new memory, and whether there is one. -/
def NewMB (ok : Bool) (ls : List (List Int)) (w : World) (e : Ending) (w' : World) : Prop := ∃ v, e = .returned (.tuple #[v, .bool ok]) ∧ OwnM w' w.heap.size w'.heap.size v ls ∧ w.grownBy w' none
def CopyM (ls : List (List Int)) (w : World) (e : Ending) (w' : World) : Prop := ∃ v, e = .returned v ∧ OwnM w' w.heap.size w'.heap.size v ls ∧ w.grownBy w' none

/-- A further list of the call's own takes the place of list k. -/
theorem Part.swap {w : World} {lo hi g n cap : Nat} {vs : List Value} {k : Nat} {ls : List (List Int)} {r : Value} {l : List Int} (h : Part w lo hi (.slice (some ⟨g, 0, none⟩) n cap) vs ls.length ls) (hn : n = vs.length) (hv : vs.length = ls.length) (hk : k < n) (hhi : hi ≤ w.heap.size)
    (hr : OwnI w hi r l) (hlo : lo ≤ hi) :
    OwnM (w.setCell ⟨g, k, none⟩ r) lo w.heap.size (.slice (some ⟨g, 0, none⟩) n cap) (ls.set k l) ∧ w.grownBy (w.setCell ⟨g, k, none⟩ r) (some g) := by
  subst hn
  have hgh : g < hi := h.top g rfl
  have hgl : lo ≤ g := (h.row.lt g rfl).1
  have hst := h.row.stored k r
  refine ⟨⟨vs.set k r, by rw [List.length_set, List.length_set]; exact hv, ⟨?_, fun g' e => ?_, fun i hi => ?_, fun i hi g' e => ?_, fun i j hij hj g' e => ?_⟩⟩, hst.2⟩
  · have := hst.1
    rw [List.length_set]
    exact this
  · have := h.top g' e
    omega
  · rw [List.length_set] at hi
    rw [getD_setV _ _ _ _ _ hk, getD_setL _ _ _ _ (by omega)]
    split
    · exact (hr.kept hst.2 (by
        rcases e : r.ownBlock with _ | b
        · exact .inl rfl
        · right
          have := hr.lt b e
          intro e2
          have := Option.some.inj e2
          omega)).mono hlo
    · refine (h.own i hi).kept hst.2 ?_
      rcases e : (vs.getD i nilV).ownBlock with _ | b
      · exact .inl rfl
      · right
        intro e2
        have e3 := Option.some.inj e2
        subst e3
        exact (h.apart i hi b e).2 rfl
  · rw [List.length_set] at hi
    rw [getD_setV _ _ _ _ _ hk] at e
    split at e
    · have := hr.lt g' e
      refine ⟨this.2, fun e2 => ?_⟩
      have e3 : g = g' := Option.some.inj e2
      omega
    · rename_i hne
      have := h.apart i hi g' e
      exact ⟨by omega, this.2⟩
  · rw [List.length_set] at hj
    rw [getD_setV _ _ _ _ _ hk] at e ⊢
    split at e
    · rename_i hik
      rw [if_neg (by omega)]
      intro e2
      have := (h.apart j (by omega) g' e2).1
      have := hr.lt g' e
      omega
    · rename_i hne
      split
      · rename_i hjk
        have h1 := (h.apart i (by omega) g' e).1
        intro e2
        have := hr.lt g' e2
        omega
      · exact h.each i j hij (by omega) g' e
/-- A whole row copied over, as a step of a region whose order is open. -/
theorem run_copy_all {P : Program} {w : World} (dT sT ty : TypeId) (elem : TypeId) (hu : P.underlying dT = some (.slice elem)) (hsz : (P.info? elem).map (·.size) = some 1)
    (g n dCap : Nat) (ad : Addr) (sCap : Nat) (cur : Array Value) (t : TypeId) (hg : w.heap[g]? = some (.cells cur t (0, 0))) (cs : List Value) (hn : cs.length = n)
    (hsrc : ∀ j v, cs[j]? = some v → w.cell? (ad.add j) = some v) (hfit : n ≤ cur.size) (h1 : ∀ v ∈ cs, v.oneCell' = true) :
    (Builtin.copy_ #[dT, sT] ty #[.slice (some ⟨g, 0, none⟩) n dCap, .slice (some ad) n sCap]).run P w = .ok (goInt cs.length) (w.setRow g (cs ++ cur.toList.drop n).toArray) := by
  have hrun := run_copy_row (P := P) w dT sT ty elem g 0 n dCap ad n sCap cur t cs hu hsz hg (by rw [hn]; simp) hsrc (by omega) h1
  simpa [hn] using hrun
theorem wpList_copy_all {P : Program} {w : World} {ops : Array Oper} {rest : List Oper} {o : Oper} {a : Act} {Q : Exit → Act → World → Prop} (hgd : o.guard = none) (d s : Operand) (dT sT : TypeId)
    (ho : o.op = .call { callee := .builtin .copy, args := #[d, s], argTypes := #[dT, sT] }) (elem : TypeId) (hu : P.underlying dT = some (.slice elem)) (hsz : (P.info? elem).map (·.size) = some 1)
    (g n dCap : Nat) (ad : Addr) (sCap : Nat) (hd : a.eval d = .slice (some ⟨g, 0, none⟩) n dCap) (hs : a.eval s = .slice (some ad) n sCap) (cur : Array Value) (t : TypeId) (hg : w.heap[g]? = some (.cells cur t (0, 0))) (cs : List Value) (hn : cs.length = n)
    (hsrc : ∀ j v, cs[j]? = some v → w.cell? (ad.add j) = some v) (hfit : n ≤ cur.size) (h1 : ∀ v ∈ cs, v.oneCell' = true)
    (h : wpList P ops Q rest (a.put o.dst (goInt cs.length)) (w.setRow g (cs ++ cur.toList.drop n).toArray)) : wpList P ops Q (o :: rest) a w := by
  refine wpList_plain hgd fun K hK => ?_
  have hrun := run_copy_all (P := P) (w := w) dT sT o.type elem hu hsz g n dCap ad sCap cur t hg cs hn hsrc hfit h1
  unfold Oper.wp
  simp [execOp, ho, resolve, invoke, builtin, hd, hs, hrun, Result.andThen]
  exact hK _ _ h
theorem OwnI.over {w : World} {base g n cap : Nat} {l : List Int} (h : OwnI w base (.slice (some ⟨g, 0, none⟩) n cap) l) (hl : l.length = n) :
    ∃ cur : Array Value, w.heap[g]? = some (.cells cur 3 (0, 0)) ∧ n ≤ cur.size ∧ ∀ l' : List Int, l'.length = n →
      OwnI (w.setRow g (l'.map (Value.int .i64) ++ cur.toList.drop n).toArray) base (.slice (some ⟨g, 0, none⟩) n cap) l' ∧ w.grownBy (w.setRow g (l'.map (Value.int .i64) ++ cur.toList.drop n).toArray) (some g) := by
  subst hl
  rcases h.2 with ⟨h', _⟩ | ⟨g', cap', cur, h', hb, hg, hnc, hcm, hcs, htake⟩
  · simp at h'
  · simp only [Value.slice.injEq, Option.some.injEq, Addr.mk.injEq, and_true, true_and] at h'
    obtain ⟨rfl, rfl⟩ := h'
    refine ⟨cur, hg, by omega, fun l' hl' => ⟨⟨by simp, .inr ⟨g, cap, _, by rw [hl'], hb, setRow_heap w g cur _ _ _ hg, by omega, hcm, ?_, ?_⟩⟩, rfl, rfl, rfl, by simp, fun j _ hj => setRow_other w g j _ (fun e => hj (by rw [e]))⟩⟩
    · simp [hl']; omega
    · simp [hl']
/-- 'clear' of a row of four numbers. -/
theorem wpList_clear4 {P : Program} {w : World} {ops : Array Oper} {rest : List Oper} {o : Oper} {a : Act} {Q : Exit → Act → World → Prop} (hgd : o.guard = none) (s : Operand) (t e : TypeId)
    (ho : o.op = .call { callee := .builtin .clear, args := #[s], argTypes := #[t] }) (ht : P.underlying t = some (.slice e)) (hv : ∀ w, (zeroValue e).run P w = .ok (.int .i64 0) w)
    (g c : Nat) (hs : a.eval s = .slice (some ⟨g, 0, none⟩) 4 c) (hc : ∀ j, j < 4 → (w.cell? ⟨g, j, none⟩).isSome = true) (hf : ∀ j, j < 4 → w.frozen? ⟨g, j, none⟩ = false)
    (h : wpList P ops Q rest (a.put o.dst (.tuple #[])) ((((w.setCell ⟨g, 0, none⟩ (.int .i64 0)).setCell ⟨g, 1, none⟩ (.int .i64 0)).setCell ⟨g, 2, none⟩ (.int .i64 0)).setCell ⟨g, 3, none⟩ (.int .i64 0))) : wpList P ops Q (o :: rest) a w := by
  refine wpList_plain hgd fun K hK => ?_
  have hrun := Lib.run_clear_slice (P := P) w t e o.type (.int .i64 0) ht hv rfl rfl g 0 4 c (by omega) (fun j hj => by rw [Nat.zero_add]; exact hc j hj) (fun j hj => by rw [Nat.zero_add]; exact hf j hj)
  simp only [List.replicate, World.setCells] at hrun
  unfold Oper.wp
  simp [execOp, ho, resolve, invoke, builtin, hs, hrun, Result.andThen]
  exact hK _ _ h
theorem OwnI.zeros {w : World} {base g cap : Nat} {l : List Int} (h : OwnI w base (.slice (some ⟨g, 0, none⟩) 4 cap) l) (hl : l.length = 4) :
    OwnI ((((w.setCell ⟨g, 0, none⟩ (.int .i64 0)).setCell ⟨g, 1, none⟩ (.int .i64 0)).setCell ⟨g, 2, none⟩ (.int .i64 0)).setCell ⟨g, 3, none⟩ (.int .i64 0)) base (.slice (some ⟨g, 0, none⟩) 4 cap) [0, 0, 0, 0] ∧
      w.grownBy ((((w.setCell ⟨g, 0, none⟩ (.int .i64 0)).setCell ⟨g, 1, none⟩ (.int .i64 0)).setCell ⟨g, 2, none⟩ (.int .i64 0)).setCell ⟨g, 3, none⟩ (.int .i64 0)) (some g) := by
  have h' : w.ownsRow base 3 1 (.slice (some ⟨g, 0, none⟩) 4 cap) 4 (l.map (Value.int .i64)) := by unfold OwnI at h; rw [hl] at h; exact h
  have s0 := h'.stored 0 (.int .i64 0)
  have s1 := s0.1.stored 1 (.int .i64 0)
  have s2 := s1.1.stored 2 (.int .i64 0)
  have s3 := s2.1.stored 3 (.int .i64 0)
  refine ⟨?_, grown_trans (grown_trans (grown_trans s0.2 s1.2) s2.2) s3.2⟩
  have := s3.1
  match l, hl with
  | [x0, x1, x2, x3], _ => exact this
/-- A row of a valid memory that the call made. -/
theorem Part.four {w : World} {lo hi g n cap : Nat} {vs : List Value} {ls : List (List Int)} (h : Part w lo hi (.slice (some ⟨g, 0, none⟩) n cap) vs ls.length ls) (hn : n = vs.length) (hv : vs.length = ls.length) {f : Nat} (hf : f < n) (h4 : (ls.getD f []).length = 4) :
    ∃ g2 rc, vs.getD f nilV = .slice (some ⟨g2, 0, none⟩) 4 rc ∧ w.cell? ⟨g, f, none⟩ = some (.slice (some ⟨g2, 0, none⟩) 4 rc) ∧ w.frozen? ⟨g, f, none⟩ = false ∧ OwnI w lo (.slice (some ⟨g2, 0, none⟩) 4 rc) (ls.getD f []) ∧
      (∀ j, j < 4 → w.cell? ⟨g2, j, none⟩ = some (.int .i64 ((ls.getD f []).getD j 0))) ∧ (∀ j, w.frozen? ⟨g2, j, none⟩ = false) ∧ lo ≤ g2 ∧ g2 < hi ∧ g2 < w.heap.size ∧ g2 ≠ g := by
  have ho := h.own f (by omega)
  have hc := h.cell hn hf
  rcases ho.2 with ⟨e, h0⟩ | ⟨g2, rc, cur, e, hb, hg, hnc, hcm, hcs, htake⟩
  · omega
  · rw [h4] at e
    have ho' := ho
    rw [e] at ho hc
    have hown : w.ownsRow lo 3 1 (.slice (some ⟨g2, 0, none⟩) 4 rc) 4 ((ls.getD f []).map (Value.int .i64)) := by unfold OwnI at ho; rw [h4] at ho; exact ho
    have hap := h.apart f (by omega) g2 (by rw [e]; rfl)
    refine ⟨g2, rc, e, hc.1, hc.2, ho, fun j hj => ?_, fun j => hown.frozenAt j, hb, hap.1, (Array.getElem?_eq_some_iff.1 hg).1, fun e2 => hap.2 (by rw [e2]; rfl)⟩
    have := hown.cellAt j (by omega)
    rw [this, List.getElem?_map, getD_some _ j 0 (by omega)]
    rfl
set_option maxHeartbeats 1000000 in
theorem l2Copy_c (B : Nat) (a : Option Addr) (cap : Nat) (ls : List (List Int)) (w : World) (h : Mem w B a ls) (hB : B ≤ w.heap.size) (hv : mvB ls = true) :
    Calls Try.prog 39 #[.slice a ls.length cap] w (CopyM ls w) := by
  have H := Lib.hid h
  have hlen := (mv_shape hv).1
  have HL : Hid (ls.length = 12) := hlen
  have H4 := Lib.hid (mv_shape hv).2.1
  clear h hv
  obtain ⟨i0, hi, hz0, hz1, hz2⟩ := info_parts infoInt
  obtain ⟨i1, ji, jz0, jz1, jz2⟩ := info_parts infoRow
  have HI := Lib.hid hi
  have HZ0 := Lib.hid hz0
  have HZ1 := Lib.hid hz1
  have HZ2 := Lib.hid hz2
  have JI := Lib.hid ji
  have JZ0 := Lib.hid jz0
  have JZ1 := Lib.hid jz1
  have JZ2 := Lib.hid jz2
  have HO0 : Hid (∃ hi, hi ≤ (w.alloc (.cells #[] 26)).heap.size ∧ OwnM (w.alloc (.cells #[] 26)) w.heap.size hi (.slice (some ⟨w.heap.size, 0, none⟩) 0 0) (ls.take 0)) := ⟨_, by simp, OwnM.lit w w.heap.size (Nat.le_refl _)⟩
  have HG0 := Lib.hid (World.grownBy_alloc w (.cells #[] 26) none)
  rw [hlen]
  clear hi hz0 hz1 hz2 ji jz0 jz1 jz2 hlen
  go_enter Try.func39, Try.ntmps39
  go_wp2
  go_loopw [3, 4] (fun v i wr => ∃ (k : Nat) (x : Value), k ≤ 12 ∧ i = .int .i64 k ∧ x = v ∧ w.grownBy wr none ∧ Hid (∃ hi, hi ≤ wr.heap.size ∧ OwnM wr w.heap.size hi x (ls.take k))) (fun _ i _ => 12 - (intOf i).toNat)
  case atStart => exact ⟨0, _, by omega, rfl, rfl, HG0.out, HO0.out⟩
  case round =>
    obtain ⟨k, v, hk, rfl, rfl, hg, hX⟩ := hrel
    by_cases hlt : k < 12
    · have hlt' : (k : Int) < 12 := by omega
      obtain ⟨hi, hhi, vs, v1, v2⟩ := hX.out
      have hgs := hg.size
      have HG := Lib.hid hg
      have HM := Lib.hid ((H.out.gnone hg hB).gnone (World.grownBy_alloc wr (.cells #[] 3) none) (by omega))
      obtain ⟨b, off, ha, hb, ra, rc, hc1, _, hi1⟩ := HM.out.at_ (i := k) (by rw [HL.out]; exact hlt)
      have h4 := H4.out k hlt
      rw [h4] at hc1
      subst ha
      rcases hi1 with h0 | ⟨b', off', rfl, hb', hcc⟩
      · rw [h0] at h4; cases h4
      have HC : Hid (∀ j u, ((ls.getD k []).map (Value.int .i64))[j]? = some u → (wr.alloc (.cells #[] 3)).cell? ((⟨b', off', none⟩ : Addr).add j) = some u) := by
        intro j u hu
        rw [List.getElem?_map] at hu
        obtain ⟨x, hx, rfl⟩ := Option.map_eq_some_iff.1 hu
        have hj : j < (ls.getD k []).length := (List.getElem?_eq_some_iff.1 hx).1
        rw [Addr.add_lit, hcc j hj, List.getD_eq_getElem?_getD, hx]; rfl
      have HOwn : Hid ((wr.alloc (.cells #[] 3)).ownsRow wr.heap.size 3 1 (.slice (some ⟨wr.heap.size, 0, none⟩) 0 0) 0 []) := World.ownsRow_lit wr #[] 0 (Nat.le_refl _) (by unfold maxLen; omega) rfl
      have HP : Hid (vs.length = (ls.take k).length ∧ Part wr w.heap.size wr.heap.size v vs (ls.take k).length (ls.take k)) := ⟨v1, v2.mono hhi⟩
      have H4' := Lib.hid h4
      have HTK : Hid ((ls.take k).length = k) := by show _ = _; rw [List.length_take, HL.out]; omega
      have HTS : Hid (ls.take (k + 1) = ls.take k ++ [ls.getD k []]) := by
        have hkl : k < ls.length := by rw [HL.out]; exact hlt
        show _ = _
        rw [List.take_succ_eq_append_getElem hkl, List.getD_eq_getElem?_getD, List.getElem?_eq_getElem hkl]; rfl
      clear hX v1 v2 hhi hg h4 hcc
      generalize ls.getD k [] = l at *
      go_wp2_with (at_builtin; refine wpList_append_own _ rfl _ _ 26 rfl wr.heap.size 3 i0 (.int .i64 0) 1 8 Try.underlying26 HI.out HZ0.out HZ1.out HZ2.out rfl (by decide) _ _ _ rfl HOwn.out ⟨b', off', none⟩ 4 rc (l.map (Value.int .i64)) rfl (by rw [List.length_map, H4'.out]) HC.out ?c2 ?c3 ?c4 ?c5 ?_)
      case c2 => exact ints_oneCell _ _
      case c3 => unfold maxLen; omega
      case c4 => omega
      case c5 => simp
      intro r w1 hr hgr _
      have hrow : OwnI w1 wr.heap.size r l := by unfold OwnI; rw [H4'.out]; exact hr
      have hg1 : wr.grownBy w1 none := grown_own (grown_refl _ _) hgr (fun j hj => by have := Option.some.inj hj; simp at this; omega)
      obtain ⟨ra2, rc2, rfl, _, _, _⟩ := hrow.intsB (fun g e => (hrow.lt g e).2)
      have HR := Lib.hid hrow
      have HG1 := Lib.hid hg1
      have HW1 := Lib.hid hg1.size
      have HP1 : Hid (Part w1 w.heap.size wr.heap.size v vs (ls.take k).length (ls.take k)) := HP.out.2.gnone hg1
      have HPR := Lib.hid HP1.out.row
      clear hr hgr hrow hg1
      go_wp2_with (at_builtin; refine wpList_append_own_at _ rfl _ _ 23 rfl w.heap.size 26 i1 (.slice none 0 0) 1 24 Try.underlying23 JI.out JZ0.out JZ1.out JZ2.out rfl (by decide) _ _ _ rfl (World.ownsRow.alloc HPR.out _) ⟨w1.heap.size, 0, none⟩ 1 1 [.slice ra2 l.length rc2] rfl rfl ?d1 ?d2 ?d3 ?d4 ?d5 ?_)
      case d1 => exact one_new _ _ _
      case d2 => intro u hu; simp at hu; subst hu; rfl
      case d3 => rw [HP.out.1, HTK.out]; unfold maxLen; omega
      case d4 => rw [HP.out.1, HTK.out]; omega
      case d5 => have := HW1.out; simp; omega
      intro v' w2 hv' hgv _ hat
      have HX : Hid (w.grownBy w2 none ∧ ∃ hi, hi ≤ w2.heap.size ∧ OwnM w2 w.heap.size hi v' (ls.take (k + 1))) := by
        have hw1 := HW1.out
        have hP2 := HP1.out.gnone (World.grownBy_alloc w1 (.cells #[.slice ra2 l.length rc2] 26) none)
        have hR2 := HR.out.keptN (World.grownBy_alloc w1 (.cells #[.slice ra2 l.length rc2] 26) none)
        have hp := OwnM.push HP.out.1 hP2 (by simp; omega) hgs hR2 hv' hgv (by simpa using hat)
        refine ⟨?_, w2.heap.size, Nat.le_refl _, by rw [HTS.out]; exact hp.1⟩
        have h3 : w.grownBy (w1.alloc (.cells #[.slice ra2 l.length rc2] 26)) none := none_alloc (none_trans HG.out HG1.out) _
        have hT := (Turned.of_none h3 w.heap.size wr.heap.size).trans hp.2
        exact hT.gnone (Nat.le_refl _)
      clear hv' hgv hat
      go_wp2_with fail
      go_roundw
      case rel => exact ⟨k + 1, _, by omega, by go_num, rfl, HX.out.1, HX.out.2⟩
      case measure => simp [intOf]; omega
    · have : k = 12 := by omega
      subst this
      go_wp2_with fail
      go_ret
      obtain ⟨hi, hhi, ho⟩ := hX.out
      refine ⟨_, rfl, ?_, hg⟩
      rw [List.take_of_length_le (by rw [HL.out]; exact Nat.le_refl _)] at ho
      exact ho.mono hhi
/-- A number is stored at a place of a list that the call made. -/
theorem OwnM.put_ {w : World} {lo hi : Nat} {v : Value} {ls : List (List Int)} (h : OwnM w lo hi v ls) (hl : ls.length = 12) (h4 : ∀ i, i < 12 → (ls.getD i []).length = 4) {f t : Int} (f0 : 0 ≤ f) (f1 : f ≤ 11) (t0 : 0 ≤ t) (t1 : t ≤ 3) (x : Int) :
    ∃ g cap g2 rc y, v = .slice (some ⟨g, 0, none⟩) 12 cap ∧ w.cell? ⟨g, f.toNat, none⟩ = some (.slice (some ⟨g2, 0, none⟩) 4 rc) ∧ w.cell? ⟨g2, t.toNat, none⟩ = some y ∧ w.frozen? ⟨g2, t.toNat, none⟩ = false ∧
      OwnM (w.setCell ⟨g2, t.toNat, none⟩ (.int .i64 x)) lo hi v (putL ls f t x) ∧ Turned lo hi w (w.setCell ⟨g2, t.toNat, none⟩ (.int .i64 x)) := by
  rcases h.cases with ⟨_, h0⟩ | ⟨g, cap, rfl, _, _, _, _, _⟩
  · rw [h0] at hl; cases hl
  · obtain ⟨vs, v1, v2⟩ := h
    have h4f := h4 f.toNat (by omega)
    obtain ⟨g2, rc, e, hc, hf, ho, hcc, hff, _, _, _, _⟩ := v2.four v1.symm v1 (f := f.toNat) (by omega) h4f
    have hown : w.ownsRow lo 3 1 (.slice (some ⟨g2, 0, none⟩) 4 rc) 4 ((ls.getD f.toNat []).map (Value.int .i64)) := by unfold OwnI at ho; rw [h4f] at ho; exact ho
    have hst := hown.stored t.toNat (.int .i64 x)
    have hr : OwnI (w.setCell ⟨g2, t.toNat, none⟩ (.int .i64 x)) lo (vs.getD f.toNat nilV) ((ls.getD f.toNat []).set t.toNat x) := by
      rw [e]
      unfold OwnI
      rw [List.length_set, h4f, List.map_set]
      exact hst.1
    have hw := OwnM.wrote v1 v2 (k := f.toNat) (by omega) (by rw [e]; exact hst.2) hr
    exact ⟨g, cap, g2, rc, _, by rw [hl], hc, hcc t.toNat (by omega), hff _, ⟨vs, by unfold putL; rw [List.length_set]; exact v1, hw.1⟩, hw.2⟩
def mpB (ls : List (List Int)) (f t n : Int) : Bool := mvB ls && (inR f 0 11 && (inR t 0 3 && inR n 0 9999))
def mpL (ls : List (List Int)) (f t n : Int) : List (List Int) := if mpB ls f t n then putL ls f t n else []
theorem mp_cases (ls : List (List Int)) (f t n : Int) :
    (mpB ls f t n = false ∧ mpL ls f t n = [] ∧ (mvB ls = false ∨ mvB ls = true ∧ inR f 0 11 = false ∨ mvB ls = true ∧ inR f 0 11 = true ∧ inR t 0 3 = false ∨ mvB ls = true ∧ inR f 0 11 = true ∧ inR t 0 3 = true ∧ inR n 0 9999 = false)) ∨
    (mpB ls f t n = true ∧ mpL ls f t n = putL ls f t n ∧ mvB ls = true ∧ inR f 0 11 = true ∧ inR t 0 3 = true ∧ inR n 0 9999 = true) := by
  rcases h1 : mvB ls <;> rcases h2 : inR f 0 11 <;> rcases h3 : inR t 0 3 <;> rcases h4 : inR n 0 9999 <;> simp [mpB, mpL, h1, h2, h3, h4]
theorem lit_new (w : World) : OwnM (w.alloc (.cells #[] 26)) w.heap.size (w.alloc (.cells #[] 26)).heap.size (.slice (some ⟨w.heap.size, 0, none⟩) 0 0) [] := (OwnM.lit w w.heap.size (Nat.le_refl _)).mono (by simp)
set_option maxHeartbeats 1000000 in
/-- A copy of a list of four numbers. -/
theorem cloneInts_c (b off cap : Nat) (l : List Int) (w : World) (h4 : l.length = 4) (hc : ∀ i, i < l.length → w.cell? ⟨b, off + i, none⟩ = some (.int .i64 (l.getD i 0))) :
    Calls Try.prog 50 #[.slice (some ⟨b, off, none⟩) 4 cap] w fun e w' => ∃ v, e = .returned v ∧ OwnI w' w.heap.size v l ∧ w.grownBy w' none := by
  obtain ⟨i0, hi, hz0, hz1, hz2⟩ := info_parts infoInt
  have HI := Lib.hid hi
  have HZ0 := Lib.hid hz0
  have HZ1 := Lib.hid hz1
  have HZ2 := Lib.hid hz2
  have hnil := fun w a n c => Lib.run_eql_slice_nil (P := Try.prog) w 26 3 a n c 0 0 Try.underlying26
  have HC : Hid (∀ j u, (l.map (Value.int .i64))[j]? = some u → (w.alloc (.cells #[] 3)).cell? ((⟨b, off, none⟩ : Addr).add j) = some u) := by
    intro j u hu
    rw [List.getElem?_map] at hu
    obtain ⟨x, hx, rfl⟩ := Option.map_eq_some_iff.1 hu
    have hj : j < l.length := (List.getElem?_eq_some_iff.1 hx).1
    have h0 := hc j hj
    have hlt := World.block_lt_of_cell? w _ h0
    rw [Addr.add_lit, World.cell?_alloc_past _ _ _ hlt, h0, List.getD_eq_getElem?_getD, hx]; rfl
  have HOwn : Hid ((w.alloc (.cells #[] 3)).ownsRow w.heap.size 3 1 (.slice (some ⟨w.heap.size, 0, none⟩) 0 0) 0 []) := World.ownsRow_lit w #[] 0 (Nat.le_refl _) (by unfold maxLen; omega) rfl
  have H4 := Lib.hid h4
  clear hi hz0 hz1 hz2 hc h4
  go_enter Try.func50, Try.ntmps50
  go_wp2_with (at_builtin; refine wpList_append_own _ rfl _ _ 26 rfl w.heap.size 3 i0 (.int .i64 0) 1 8 Try.underlying26 HI.out HZ0.out HZ1.out HZ2.out rfl (by decide) _ _ _ rfl HOwn.out ⟨b, off, none⟩ 4 cap (l.map (Value.int .i64)) rfl (by rw [List.length_map, H4.out]) HC.out ?c2 ?c3 ?c4 ?c5 ?_)
  case c2 => exact ints_oneCell _ _
  case c3 => unfold maxLen; omega
  case c4 => omega
  case c5 => simp
  intro r w1 hr hgr _
  have HR : Hid (OwnI w1 w.heap.size r l ∧ w.grownBy w1 none) := by
    refine ⟨by unfold OwnI; rw [H4.out]; exact hr, grown_own (grown_refl _ _) hgr (fun j hj => ?_)⟩
    have := Option.some.inj hj; simp at this; omega
  clear hr hgr
  go_wp2_with fail
  go_ret
  exact ⟨_, rfl, HR.out.1, HR.out.2⟩
/-- The cells of the outer row. -/
def rowV (w : World) (b off n : Nat) : List Value := (List.range n).map fun i => (w.cell? ⟨b, off + i, none⟩).getD nilV
theorem rowV_get {w : World} {b off n i : Nat} (h : i < n) : (rowV w b off n).getD i nilV = (w.cell? ⟨b, off + i, none⟩).getD nilV := by
  unfold rowV
  rw [List.getD_eq_getElem?_getD, List.getElem?_map, List.getElem?_range h]; rfl
set_option maxHeartbeats 1000000 in
/-- A copy of a row of twelve lists: the lists are shared. -/
theorem cloneRows_c (b off cap : Nat) (w : World) (hc : ∀ i, i < 12 → ∃ ra n rc, w.cell? ⟨b, off + i, none⟩ = some (.slice ra n rc)) :
    Calls Try.prog 49 #[.slice (some ⟨b, off, none⟩) 12 cap] w fun e w' => ∃ v, e = .returned v ∧ w'.ownsRow w.heap.size 26 1 v 12 (rowV w b off 12) ∧ w.grownBy w' none := by
  obtain ⟨i0, hi, hz0, hz1, hz2⟩ := info_parts infoRow
  have HI := Lib.hid hi
  have HZ0 := Lib.hid hz0
  have HZ1 := Lib.hid hz1
  have HZ2 := Lib.hid hz2
  have hnil := fun w a n c => Lib.run_eql_slice_nil (P := Try.prog) w 23 26 a n c 0 0 Try.underlying23
  have HC : Hid ((∀ j u, (rowV w b off 12)[j]? = some u → (w.alloc (.cells #[] 26)).cell? ((⟨b, off, none⟩ : Addr).add j) = some u) ∧ ∀ u ∈ rowV w b off 12, u.oneCell' = true) := by
    constructor
    · intro j u hu
      have hj : j < 12 := by
        have := (List.getElem?_eq_some_iff.1 hu).1
        simpa [rowV] using this
      obtain ⟨ra, n, rc, h0⟩ := hc j hj
      have hlt := World.block_lt_of_cell? w _ h0
      rw [getD_some _ j nilV (by simpa [rowV] using hj), rowV_get hj, h0] at hu
      rw [Addr.add_lit, World.cell?_alloc_past _ _ _ hlt, h0]
      exact hu
    · intro u hu
      unfold rowV at hu
      obtain ⟨j, hj, rfl⟩ := List.mem_map.1 hu
      obtain ⟨ra, n, rc, h0⟩ := hc j (List.mem_range.1 hj)
      rw [h0]; rfl
  have HOwn : Hid ((w.alloc (.cells #[] 26)).ownsRow w.heap.size 26 1 (.slice (some ⟨w.heap.size, 0, none⟩) 0 0) 0 []) := World.ownsRow_lit w #[] 0 (Nat.le_refl _) (by unfold maxLen; omega) rfl
  have HL : Hid ((rowV w b off 12).length = 12) := by show _ = _; simp [rowV]
  clear hi hz0 hz1 hz2 hc
  go_enter Try.func49, Try.ntmps49
  go_wp2_with (at_builtin; refine wpList_append_own _ rfl _ _ 23 rfl w.heap.size 26 i0 (.slice none 0 0) 1 24 Try.underlying23 HI.out HZ0.out HZ1.out HZ2.out rfl (by decide) _ _ _ rfl HOwn.out ⟨b, off, none⟩ 12 cap (rowV w b off 12) rfl (by rw [HL.out]) HC.out.1 HC.out.2 ?c3 ?c4 ?c5 ?_)
  case c3 => unfold maxLen; omega
  case c4 => omega
  case c5 => simp
  intro r w1 hr hgr _
  have HR : Hid (w1.ownsRow w.heap.size 26 1 r 12 (rowV w b off 12) ∧ w.grownBy w1 none) := by
    refine ⟨hr, grown_own (grown_refl _ _) hgr (fun j hj => ?_)⟩
    have := Option.some.inj hj; simp at this; omega
  clear hr hgr
  go_wp2_with fail
  go_ret
  exact ⟨_, rfl, HR.out.1, HR.out.2⟩
set_option maxHeartbeats 1000000 in
theorem ownWords_c (B : Nat) (a : Option Addr) (cap : Nat) (ls : List (List Int)) (w : World) (h : Mem w B a ls) (_hB : B ≤ w.heap.size) (hv : mvB ls = true) :
    Calls Try.prog 38 #[.slice a ls.length cap] w (CopyM ls w) := by
  have H := Lib.hid h
  have hlen := (mv_shape hv).1
  have HL : Hid (ls.length = 12) := hlen
  have H4 := Lib.hid (mv_shape hv).2.1
  obtain ⟨b, off, ha, hb, _⟩ := h.at_ (i := 0) (by omega)
  have HR : Hid (∀ i, i < 12 → ∃ ra rc, w.cell? ⟨b, off + i, none⟩ = some (.slice ra 4 rc) ∧ IntsB w B ra (ls.getD i [])) := by
    intro i hi
    obtain ⟨b', off', ha', _, ra, rc, h1, _, h3⟩ := h.at_ (i := i) (by omega)
    rw [ha] at ha'
    simp only [Option.some.injEq, Addr.mk.injEq, and_true] at ha'
    obtain ⟨rfl, rfl⟩ := ha'
    rw [(mv_shape hv).2.1 i hi] at h1
    exact ⟨ra, rc, h1, h3⟩
  subst ha
  rw [hlen]
  clear h hv hlen H
  go_enter Try.func38, Try.ntmps38
  go_wp2_with fail
  refine (cloneRows_c b off cap w (fun i hi => by obtain ⟨ra, rc, h1, _⟩ := HR.out i hi; exact ⟨ra, 4, rc, h1⟩)).mono ?_
  rintro e w1 ⟨v, rfl, hrow, hg1⟩
  obtain ⟨g, cap2, rfl, hgl, hgh⟩ : ∃ g cap2, v = .slice (some ⟨g, 0, none⟩) 12 cap2 ∧ w.heap.size ≤ g ∧ g < w1.heap.size := by
    rcases hrow.2 with ⟨_, h0⟩ | ⟨g, cap2, cur, rfl, hbb, hgg, _⟩
    · cases h0
    · exact ⟨g, cap2, rfl, hbb, (Array.getElem?_eq_some_iff.1 hgg).1⟩
  have HGL := Lib.hid hgl
  have H0 : Hid (∃ (hi : Nat) (vs : List Value), hi ≤ w1.heap.size ∧ vs.length = 12 ∧ Part w1 w.heap.size hi (.slice (some ⟨g, 0, none⟩) 12 cap2) vs 0 ls ∧ ∀ i, 0 ≤ i → i < 12 → vs.getD i nilV = (rowV w b off 12).getD i nilV) := by
    have hl : (rowV w b off 12).length = 12 := by simp [rowV]
    exact ⟨w1.heap.size, rowV w b off 12, Nat.le_refl _, hl, Part.zero (by rw [hl]; exact hrow) (fun g' e => (hrow.lt g' e).2), fun _ _ _ => rfl⟩
  clear hrow hgl hgh
  go_wp2_with fail
  go_loopw [10] (fun i wr => ∃ k : Nat, k ≤ 12 ∧ i = .int .i64 k ∧ w.grownBy wr none ∧ Hid (∃ (hi : Nat) (vs : List Value), hi ≤ wr.heap.size ∧ vs.length = 12 ∧ Part wr w.heap.size hi (.slice (some ⟨g, 0, none⟩) 12 cap2) vs k ls ∧ ∀ i, k ≤ i → i < 12 → vs.getD i nilV = (rowV w b off 12).getD i nilV)) (fun i _ => 12 - (intOf i).toNat)
  case atStart => exact ⟨0, by omega, rfl, hg1, H0.out⟩
  case round =>
    obtain ⟨k, hk, rfl, hg, hX⟩ := hrel
    by_cases hlt : k < 12
    · have hlt' : (k : Int) < 12 := by omega
      obtain ⟨ra, rc, hcell, hints⟩ := HR.out k hlt
      have h4 := H4.out k hlt
      rcases hints with h0 | ⟨b', off', rfl, hb', hcc⟩
      · rw [h0] at h4; cases h4
      have hc1 : wr.cell? ⟨g, k, none⟩ = some (.slice (some ⟨b', off', none⟩) 4 rc) := by
        obtain ⟨hi, vs, _, h2, h3, h5⟩ := hX.out
        rw [(h3.cell h2.symm hlt).1, h5 k (Nat.le_refl _) hlt, rowV_get hlt, hcell]; rfl
      have HCC : Hid (∀ i, i < (ls.getD k []).length → wr.cell? ⟨b', off' + i, none⟩ = some (.int .i64 ((ls.getD k []).getD i 0))) := fun i hi => hg.cell (hcc i hi) (by simp)
      have HG := Lib.hid hg
      have H4' := Lib.hid h4
      have HX : Hid (∀ (w2 : World) (r : Value), wr.grownBy w2 none → OwnI w2 wr.heap.size r (ls.getD k []) → (∃ y, w2.cell? ⟨g, k, none⟩ = some y) ∧ w2.frozen? ⟨g, k, none⟩ = false ∧ w.grownBy (w2.setCell ⟨g, k, none⟩ r) none ∧
          ∃ (hi : Nat) (vs : List Value), hi ≤ (w2.setCell ⟨g, k, none⟩ r).heap.size ∧ vs.length = 12 ∧ Part (w2.setCell ⟨g, k, none⟩ r) w.heap.size hi (.slice (some ⟨g, 0, none⟩) 12 cap2) vs (k + 1) ls ∧ ∀ i, k + 1 ≤ i → i < 12 → vs.getD i nilV = (rowV w b off 12).getD i nilV) := by
        intro w2 r hg2 hr
        obtain ⟨hi, vs, h1, h2, h3, h5⟩ := hX.out
        have h4 := (h3.gnone hg2).mono h1
        have h6 := h4.store h2.symm hlt hg2.size hr HG.out.size
        have hc := h4.cell h2.symm hlt
        refine ⟨⟨_, hc.1⟩, hc.2, none_setCell (none_trans HG.out hg2) HGL.out _, _, _, ?_, ?_, h6.1, fun i h7 h8 => ?_⟩
        · simp [World.setCell]
        · rw [List.length_set]; exact h2
        · rw [getD_setV _ _ _ _ _ (by omega), if_neg (by omega)]
          exact h5 i (by omega) h8
      clear hg hcc hX hcell h4
      generalize ls.getD k [] = l at *
      go_wp2_with fail
      refine (cloneInts_c b' off' rc l _ H4'.out HCC.out).mono ?_
      rintro e w2 ⟨r, rfl, hr, hg2⟩
      obtain ⟨ra2, rc2, rfl, _, _, _⟩ := hr.intsB (fun g e => (hr.lt g e).2)
      obtain ⟨⟨y, hcy⟩, hf, hY⟩ := HX.out w2 _ hg2 hr
      have HY := Lib.hid hY
      clear hY hr hg2
      go_wp2_with fail
      go_roundw
      case rel => exact ⟨k + 1, by omega, by go_num, HY.out.1, HY.out.2⟩
      case measure => simp [intOf]; omega
    · have : k = 12 := by omega
      subst this
      go_wp2_with fail
      go_ret
      obtain ⟨hi, vs, h1, h2, h3, _⟩ := hX.out
      refine ⟨_, rfl, ⟨vs, by rw [h2, HL.out], ?_⟩, hg⟩
      rw [HL.out]
      exact h3.mono h1
-- GENERATED BY gen_memput.py FROM HERE
set_option maxHeartbeats 1000000 in
theorem specMemoryPut_c (B : Nat) (a : Option Addr) (cap : Nat) (ls : List (List Int)) (f t n : Int) (w : World) (h : Mem w B a ls) (hB : B ≤ w.heap.size) (hs : Small ls) :
    Calls Try.prog 25 #[.slice a ls.length cap, .int .i64 f, .int .i64 t, .int .i64 n] w (NewMB (mpB ls f t n) (mpL ls f t n) w) := by
  have H := Lib.hid h
  have HS := Lib.hid hs
  clear h hs
  rcases mp_cases ls f t n with ⟨hb, hL, hc⟩ | ⟨hb, hL, h1, h2, h3, h4⟩
  · rw [hb, hL]
    clear hb hL
    rcases hc with h1 | ⟨h1, h2⟩ | ⟨h1, h2, h3⟩ | ⟨h1, h2, h3, h4⟩
    all_goals
      have hk : okB ls f = (mvB ls && inR f 0 11) := rfl
      try rw [h1] at hk
      try rw [h2] at hk
      simp only [Bool.false_and, Bool.true_and] at hk
      go_enter Try.func25, Try.ntmps25
      go_wp2_with (first | (go_at_call 36; refine (l2Ok_c B a cap ls _ _ H.out HS.out).mono ?_; rintro e w' ⟨rfl, rfl⟩) | (go_at_call 37; refine (l6In_c _ _ _ _).mono ?_; rintro e w' ⟨rfl, rfl⟩) | (go_at_call 40; refine (l1Frame_c _ _).mono ?_; rintro e w' ⟨rfl, rfl⟩))
      go_ret2
      exact ⟨_, rfl, lit_new _, World.grownBy_alloc _ _ _⟩
  · rw [hb, hL]
    clear hb hL
    have HL : Hid (ls.length = 12) := (mv_shape h1).1
    have H4 := Lib.hid (mv_shape h1).2.1
    have f0 := (inR_iff.1 h2).1
    have f1 := (inR_iff.1 h2).2
    have f12 : f < 12 := by omega
    have HV := Lib.hid h1
    have t0 := (inR_iff.1 h3).1
    have t1 := (inR_iff.1 h3).2
    have t4 : t < 4 := by omega
    have hk : okB ls f = true := by simp [okB, h1, h2]
    go_enter Try.func25, Try.ntmps25
    go_wp2_with (first | (go_at_call 36; refine (l2Ok_c B a cap ls _ _ H.out HS.out).mono ?_; rintro e w' ⟨rfl, rfl⟩) | (go_at_call 37; refine (l6In_c _ _ _ _).mono ?_; rintro e w' ⟨rfl, rfl⟩) | (go_at_call 40; refine (l1Frame_c _ _).mono ?_; rintro e w' ⟨rfl, rfl⟩))
    refine (l2Copy_c B a cap ls _ H.out hB HV.out).mono ?_
    rintro e w1 ⟨v, rfl, ho, hg⟩
    obtain ⟨g, cap2, g2, rc, y, rfl, c1, c2, z2, ho2, hT⟩ := ho.put_ HL.out H4.out f0 f1 t0 t1 n
    have HO := Lib.hid ho2
    have HG : Hid (w.grownBy (w1.setCell ⟨g2, t.toNat, none⟩ (.int .i64 n)) none) := ((Turned.of_none hg _ _).trans hT).gnone (Nat.le_refl _)
    clear ho ho2 hT hg
    go_wp2_with fail
    go_ret2
    exact ⟨_, rfl, by simpa [World.setCell] using HO.out, HG.out⟩
set_option maxHeartbeats 1000000 in
theorem implMemoryPut_c (B : Nat) (a : Option Addr) (cap : Nat) (ls : List (List Int)) (f t n : Int) (w : World) (h : Mem w B a ls) (hB : B ≤ w.heap.size) (hs : Small ls) :
    Calls Try.prog 24 #[.slice a ls.length cap, .int .i64 f, .int .i64 t, .int .i64 n] w (NewMB (mpB ls f t n) (mpL ls f t n) w) := by
  have H := Lib.hid h
  have HS := Lib.hid hs
  clear h hs
  rcases mp_cases ls f t n with ⟨hb, hL, hc⟩ | ⟨hb, hL, h1, h2, h3, h4⟩
  · rw [hb, hL]
    clear hb hL
    rcases hc with h1 | ⟨h1, h2⟩ | ⟨h1, h2, h3⟩ | ⟨h1, h2, h3, h4⟩
    all_goals
      go_enter Try.func24, Try.ntmps24
      go_wp2_with (first | (go_at_call 10; refine (implMemoryValid_c B a cap ls _ H.out HS.out).mono ?_; rintro e w' ⟨rfl, rfl⟩) | (go_at_call 34; refine (isFrame_c _ _).mono ?_; rintro e w' ⟨rfl, rfl⟩) | (go_at_call 35; refine (isPlace_c _ _).mono ?_; rintro e w' ⟨rfl, rfl⟩) | (go_at_call 42; refine (isWord_c _ _).mono ?_; rintro e w' ⟨rfl, rfl⟩))
      go_ret2
      exact ⟨_, rfl, OwnM.nil _ _ _, grown_refl _ _⟩
  · rw [hb, hL]
    clear hb hL
    have HL : Hid (ls.length = 12) := (mv_shape h1).1
    have H4 := Lib.hid (mv_shape h1).2.1
    have f0 := (inR_iff.1 h2).1
    have f1 := (inR_iff.1 h2).2
    have f12 : f < 12 := by omega
    have HV := Lib.hid h1
    have t0 := (inR_iff.1 h3).1
    have t1 := (inR_iff.1 h3).2
    have t4 : t < 4 := by omega
    go_enter Try.func24, Try.ntmps24
    go_wp2_with (first | (go_at_call 10; refine (implMemoryValid_c B a cap ls _ H.out HS.out).mono ?_; rintro e w' ⟨rfl, rfl⟩) | (go_at_call 34; refine (isFrame_c _ _).mono ?_; rintro e w' ⟨rfl, rfl⟩) | (go_at_call 35; refine (isPlace_c _ _).mono ?_; rintro e w' ⟨rfl, rfl⟩) | (go_at_call 42; refine (isWord_c _ _).mono ?_; rintro e w' ⟨rfl, rfl⟩))
    refine (ownWords_c B a cap ls _ H.out hB HV.out).mono ?_
    rintro e w1 ⟨v, rfl, ho, hg⟩
    obtain ⟨g, cap2, g2, rc, y, rfl, c1, c2, z2, ho2, hT⟩ := ho.put_ HL.out H4.out f0 f1 t0 t1 n
    have HO := Lib.hid ho2
    have HG : Hid (w.grownBy (w1.setCell ⟨g2, t.toNat, none⟩ (.int .i64 n)) none) := ((Turned.of_none hg _ _).trans hT).gnone (Nat.le_refl _)
    clear ho ho2 hT hg
    go_wp2_with fail
    go_ret2
    exact ⟨_, rfl, by simpa [World.setCell] using HO.out, HG.out⟩
def mcB (ls : List (List Int)) (f t : Int) : Bool := mvB ls && (inR f 0 11 && inR t 0 11)
def mcL (ls : List (List Int)) (f t : Int) : List (List Int) := if mcB ls f t then ls.set t.toNat (ls.getD f.toNat []) else []
theorem mc_cases (ls : List (List Int)) (f t : Int) :
    (mcB ls f t = false ∧ mcL ls f t = [] ∧ (mvB ls = false ∨ mvB ls = true ∧ inR f 0 11 = false ∨ mvB ls = true ∧ inR f 0 11 = true ∧ inR t 0 11 = false)) ∨
    (mcB ls f t = true ∧ mcL ls f t = ls.set t.toNat (ls.getD f.toNat []) ∧ mvB ls = true ∧ inR f 0 11 = true ∧ inR t 0 11 = true) := by
  rcases h1 : mvB ls <;> rcases h2 : inR f 0 11 <;> rcases h3 : inR t 0 11 <;> simp [mcB, mcL, h1, h2, h3]
def mlB (ls : List (List Int)) (f : Int) : Bool := mvB ls && inR f 0 11
def mlL (ls : List (List Int)) (f : Int) : List (List Int) := if mlB ls f then ls.set f.toNat [0, 0, 0, 0] else []
theorem ml_cases (ls : List (List Int)) (f : Int) :
    (mlB ls f = false ∧ mlL ls f = [] ∧ (mvB ls = false ∨ mvB ls = true ∧ inR f 0 11 = false)) ∨ (mlB ls f = true ∧ mlL ls f = ls.set f.toNat [0, 0, 0, 0] ∧ mvB ls = true ∧ inR f 0 11 = true) := by
  rcases h1 : mvB ls <;> rcases h2 : inR f 0 11 <;> simp [mlB, mlL, h1, h2]
theorem Mem.four {w : World} {B : Nat} {a : Option Addr} {ls : List (List Int)} (h : Mem w B a ls) {i : Nat} (hi : i < ls.length) (h4 : (ls.getD i []).length = 4) :
    ∃ b off b' off' rc, a = some ⟨b, off, none⟩ ∧ b < B ∧ b' < B ∧ w.cell? ⟨b, off + i, none⟩ = some (.slice (some ⟨b', off', none⟩) 4 rc) ∧ ∀ j, j < 4 → w.cell? ⟨b', off' + j, none⟩ = some (.int .i64 ((ls.getD i []).getD j 0)) := by
  obtain ⟨b, off, ha, hb, ra, rc, hc, _, hI⟩ := h.at_ hi
  rw [h4] at hc
  rcases hI with h0 | ⟨b', off', rfl, hb', hcc⟩
  · rw [h0] at h4; cases h4
  · exact ⟨b, off, b', off', rc, ha, hb, hb', hc, fun j hj => hcc j (by rw [h4]; exact hj)⟩
theorem news_four {w : World} {b off : Nat} {l : List Int} (hcc : ∀ j, j < 4 → w.cell? ⟨b, off + j, none⟩ = some (.int .i64 (l.getD j 0))) (h4 : l.length = 4) : ∀ j u, (l.map (Value.int .i64))[j]? = some u → w.cell? ((⟨b, off, none⟩ : Addr).add j) = some u := by
  intro j u hu
  rw [List.getElem?_map] at hu
  obtain ⟨x, hx, rfl⟩ := Option.map_eq_some_iff.1 hu
  have hj : j < l.length := (List.getElem?_eq_some_iff.1 hx).1
  rw [Addr.add_lit, hcc j (by omega), List.getD_eq_getElem?_getD, hx]; rfl
/-- A fresh list is stored into the outer row. -/
theorem OwnM.swap_ {w0 w w2 : World} {hi : Nat} {v r : Value} {ls : List (List Int)} {l : List Int} (h : OwnM w w0.heap.size hi v ls) (hh : hi ≤ w.heap.size) (h0 : w0.grownBy w none) (hg : w.grownBy w2 none) (hl : ls.length = 12) {t : Nat} (ht : t < 12) (hr : OwnI w2 w.heap.size r l) :
    ∃ g cap y, v = .slice (some ⟨g, 0, none⟩) 12 cap ∧ w2.cell? ⟨g, t, none⟩ = some y ∧ w2.frozen? ⟨g, t, none⟩ = false ∧ OwnM (w2.setCell ⟨g, t, none⟩ r) w0.heap.size (w2.setCell ⟨g, t, none⟩ r).heap.size v (ls.set t l) ∧ w0.grownBy (w2.setCell ⟨g, t, none⟩ r) none := by
  rcases h.cases with ⟨_, e⟩ | ⟨g, cap, rfl, hg1, _, _, _, _⟩
  · rw [e] at hl; cases hl
  · obtain ⟨vs, v1, v2⟩ := h
    have v3 := (v2.gnone hg).mono hh
    have hc := v3.cell v1.symm (i := t) (by omega)
    have hs := v3.swap v1.symm v1 (k := t) (by omega) hg.size hr h0.size
    refine ⟨g, cap, _, by rw [hl], hc.1, hc.2, ?_, none_setCell (none_trans h0 hg) hg1 _⟩
    have := hs.1
    simpa [World.setCell] using this
set_option maxHeartbeats 1000000 in
theorem specMemoryCopy_c (B : Nat) (a : Option Addr) (cap : Nat) (ls : List (List Int)) (f t : Int) (w : World) (h : Mem w B a ls) (hB : B ≤ w.heap.size) (hs : Small ls) :
    Calls Try.prog 22 #[.slice a ls.length cap, .int .i64 f, .int .i64 t] w (NewMB (mcB ls f t) (mcL ls f t) w) := by
  have H := Lib.hid h
  have HS := Lib.hid hs
  clear h hs
  rcases mc_cases ls f t with ⟨hb, hL, hc⟩ | ⟨hb, hL, h1, h2, h3⟩
  · rw [hb, hL]
    clear hb hL
    rcases hc with h1 | ⟨h1, h2⟩ | ⟨h1, h2, h3⟩
    all_goals
      have hk : okB ls f = (mvB ls && inR f 0 11) := rfl
      try rw [h1] at hk
      try rw [h2] at hk
      simp only [Bool.false_and, Bool.true_and] at hk
      go_enter Try.func22, Try.ntmps22
      go_wp2_with (first | (go_at_call 36; refine (l2Ok_c B a cap ls _ _ H.out HS.out).mono ?_; rintro e w' ⟨rfl, rfl⟩) | (go_at_call 37; refine (l6In_c _ _ _ _).mono ?_; rintro e w' ⟨rfl, rfl⟩) | (go_at_call 40; refine (l1Frame_c _ _).mono ?_; rintro e w' ⟨rfl, rfl⟩))
      go_ret2
      exact ⟨_, rfl, lit_new _, World.grownBy_alloc _ _ _⟩
  · rw [hb, hL]
    clear hb hL
    have HL : Hid (ls.length = 12) := (mv_shape h1).1
    have H4 := Lib.hid (mv_shape h1).2.1
    have f0 := (inR_iff.1 h2).1
    have f1 := (inR_iff.1 h2).2
    have f12 : f < 12 := by omega
    have HV := Lib.hid h1
    have t0 := (inR_iff.1 h3).1
    have t1 := (inR_iff.1 h3).2
    have t12 : t < 12 := by omega
    obtain ⟨i0, hi, hz0, hz1, hz2⟩ := info_parts infoInt
    have HI := Lib.hid hi
    have HZ0 := Lib.hid hz0
    have HZ1 := Lib.hid hz1
    have HZ2 := Lib.hid hz2
    clear hi hz0 hz1 hz2
    have hk : okB ls f = true := by simp [okB, h1, h2]
    go_enter Try.func22, Try.ntmps22
    go_wp2_with (first | (go_at_call 36; refine (l2Ok_c B a cap ls _ _ H.out HS.out).mono ?_; rintro e w' ⟨rfl, rfl⟩) | (go_at_call 37; refine (l6In_c _ _ _ _).mono ?_; rintro e w' ⟨rfl, rfl⟩) | (go_at_call 40; refine (l1Frame_c _ _).mono ?_; rintro e w' ⟨rfl, rfl⟩))
    refine (l2Copy_c B a cap ls _ H.out hB HV.out).mono ?_
    rintro e w1 ⟨v, rfl, ho, hg⟩
    have hm1 := (H.out.gnone hg hB).gnone (World.grownBy_alloc w1 (.cells #[] 3) none) (by have := hg.size; omega)
    obtain ⟨b, off, b', off', rc, ha, _, _, c1, cc⟩ := hm1.four (i := f.toNat) (by rw [HL.out]; omega) (H4.out _ (by omega))
    subst ha
    have HC := Lib.hid (news_four cc (H4.out f.toNat (by omega)))
    have HOwn : Hid ((w1.alloc (.cells #[] 3)).ownsRow w1.heap.size 3 1 (.slice (some ⟨w1.heap.size, 0, none⟩) 0 0) 0 []) := World.ownsRow_lit w1 #[] 0 (Nat.le_refl _) (by unfold maxLen; omega) rfl
    have HO := Lib.hid ho
    have HG := Lib.hid hg
    have H4' := Lib.hid (H4.out f.toNat (by omega))
    have hfl : f < (ls.length : Int) := by rw [HL.out]; omega
    clear hm1 cc ho hg
    generalize ls.getD f.toNat [] = l at *
    obtain ⟨g, cap2, rfl⟩ : ∃ g cap2, v = .slice (some ⟨g, 0, none⟩) 12 cap2 := by
      rcases HO.out.cases with ⟨_, e⟩ | ⟨g, cap2, e, _⟩
      · have := HL.out; rw [e] at this; cases this
      · exact ⟨g, cap2, by rw [e, HL.out]⟩
    go_wp2_with (at_builtin; refine wpList_append_own _ rfl _ _ 26 rfl w1.heap.size 3 i0 (.int .i64 0) 1 8 Try.underlying26 HI.out HZ0.out HZ1.out HZ2.out rfl (by decide) _ _ _ rfl HOwn.out ⟨b', off', none⟩ 4 rc (l.map (Value.int .i64)) rfl (by rw [List.length_map, H4'.out]) HC.out ?c2 ?c3 ?c4 ?c5 ?_)
    case c2 => exact ints_oneCell _ _
    case c3 => unfold maxLen; omega
    case c4 => omega
    case c5 => simp
    intro r w2 hr hgr _
    have hrow : OwnI w2 w1.heap.size r l := by unfold OwnI; rw [H4'.out]; exact hr
    have hg1 : w1.grownBy w2 none := grown_own (grown_refl _ _) hgr (fun j hj => by have := Option.some.inj hj; simp at this; omega)
    obtain ⟨ra2, rc2, rfl, _, _, _⟩ := hrow.intsB (fun g e => (hrow.lt g e).2)
    obtain ⟨g', cap', y, e, c2, z2, ho2, hg2⟩ := HO.out.swap_ (Nat.le_refl _) HG.out hg1 HL.out (t := t.toNat) (by omega) hrow
    simp only [Value.slice.injEq, Option.some.injEq, Addr.mk.injEq, and_true, true_and] at e
    obtain ⟨rfl, rfl⟩ := e
    have HO2 := Lib.hid ho2
    have HG2 := Lib.hid hg2
    clear hr hgr hrow hg1 ho2 hg2
    go_wp2_with fail
    go_ret2
    exact ⟨_, rfl, HO2.out, HG2.out⟩
set_option maxHeartbeats 1000000 in
theorem specMemoryClear_c (B : Nat) (a : Option Addr) (cap : Nat) (ls : List (List Int)) (f : Int) (w : World) (h : Mem w B a ls) (hB : B ≤ w.heap.size) (hs : Small ls) :
    Calls Try.prog 17 #[.slice a ls.length cap, .int .i64 f] w (NewMB (mlB ls f) (mlL ls f) w) := by
  have H := Lib.hid h
  have HS := Lib.hid hs
  clear h hs
  rcases ml_cases ls f with ⟨hb, hL, hc⟩ | ⟨hb, hL, h1, h2⟩
  · rw [hb, hL]
    clear hb hL
    rcases hc with h1 | ⟨h1, h2⟩
    all_goals
      have hk : okB ls f = (mvB ls && inR f 0 11) := rfl
      try rw [h1] at hk
      try rw [h2] at hk
      simp only [Bool.false_and, Bool.true_and] at hk
      go_enter Try.func17, Try.ntmps17
      go_wp2_with (first | (go_at_call 36; refine (l2Ok_c B a cap ls _ _ H.out HS.out).mono ?_; rintro e w' ⟨rfl, rfl⟩) | (go_at_call 37; refine (l6In_c _ _ _ _).mono ?_; rintro e w' ⟨rfl, rfl⟩) | (go_at_call 40; refine (l1Frame_c _ _).mono ?_; rintro e w' ⟨rfl, rfl⟩))
      go_ret2
      exact ⟨_, rfl, lit_new _, World.grownBy_alloc _ _ _⟩
  · rw [hb, hL]
    clear hb hL
    have HL : Hid (ls.length = 12) := (mv_shape h1).1
    have H4 := Lib.hid (mv_shape h1).2.1
    have f0 := (inR_iff.1 h2).1
    have f1 := (inR_iff.1 h2).2
    have f12 : f < 12 := by omega
    have HV := Lib.hid h1
    obtain ⟨i0, hi, hz0, hz1, hz2⟩ := info_parts infoInt
    have HI := Lib.hid hi
    have HZ0 := Lib.hid hz0
    have HZ1 := Lib.hid hz1
    have HZ2 := Lib.hid hz2
    clear hi hz0 hz1 hz2
    have hk : okB ls f = true := by simp [okB, h1, h2]
    have hmk : ∀ W : World, (Instr.makeSlice 26 (.int .i64 4) (.int .i64 4)).run Try.prog W = .ok (.slice (some ⟨W.heap.size, 0, none⟩) 4 4) (W.alloc (.cells #[.int .i64 0, .int .i64 0, .int .i64 0, .int .i64 0] 3)) := fun _ => by kernel_rfl
    go_enter Try.func17, Try.ntmps17
    go_wp2_with (first | (go_at_call 36; refine (l2Ok_c B a cap ls _ _ H.out HS.out).mono ?_; rintro e w' ⟨rfl, rfl⟩) | (go_at_call 37; refine (l6In_c _ _ _ _).mono ?_; rintro e w' ⟨rfl, rfl⟩) | (go_at_call 40; refine (l1Frame_c _ _).mono ?_; rintro e w' ⟨rfl, rfl⟩))
    refine (l2Copy_c B a cap ls _ H.out hB HV.out).mono ?_
    rintro e w1 ⟨v, rfl, ho, hg⟩
    have hrow : OwnI (w1.alloc (.cells #[.int .i64 0, .int .i64 0, .int .i64 0, .int .i64 0] 3)) w1.heap.size (.slice (some ⟨w1.heap.size, 0, none⟩) 4 4) [0, 0, 0, 0] := World.ownsRow_lit w1 _ 4 (Nat.le_refl _) (by unfold maxLen; omega) rfl
    obtain ⟨g, cap2, y, rfl, c2, z2, ho2, hg2⟩ := ho.swap_ (Nat.le_refl _) hg (World.grownBy_alloc w1 _ _) HL.out (t := f.toNat) (by omega) hrow
    have HO2 := Lib.hid ho2
    have HG2 := Lib.hid hg2
    clear hrow ho2 hg2 ho hg
    go_wp2_with fail
    go_ret2
    exact ⟨_, rfl, HO2.out, HG2.out⟩
set_option maxHeartbeats 1000000 in
theorem implMemoryCopy_c (B : Nat) (a : Option Addr) (cap : Nat) (ls : List (List Int)) (f t : Int) (w : World) (h : Mem w B a ls) (hB : B ≤ w.heap.size) (hs : Small ls) :
    Calls Try.prog 21 #[.slice a ls.length cap, .int .i64 f, .int .i64 t] w (NewMB (mcB ls f t) (mcL ls f t) w) := by
  have H := Lib.hid h
  have HS := Lib.hid hs
  clear h hs
  rcases mc_cases ls f t with ⟨hb, hL, hc⟩ | ⟨hb, hL, h1, h2, h3⟩
  · rw [hb, hL]
    clear hb hL
    rcases hc with h1 | ⟨h1, h2⟩ | ⟨h1, h2, h3⟩
    all_goals
      go_enter Try.func21, Try.ntmps21
      go_wp2_with (first | (go_at_call 10; refine (implMemoryValid_c B a cap ls _ H.out HS.out).mono ?_; rintro e w' ⟨rfl, rfl⟩) | (go_at_call 34; refine (isFrame_c _ _).mono ?_; rintro e w' ⟨rfl, rfl⟩) | (go_at_call 35; refine (isPlace_c _ _).mono ?_; rintro e w' ⟨rfl, rfl⟩) | (go_at_call 42; refine (isWord_c _ _).mono ?_; rintro e w' ⟨rfl, rfl⟩))
      go_ret2
      exact ⟨_, rfl, OwnM.nil _ _ _, grown_refl _ _⟩
  · rw [hb, hL]
    clear hb hL
    have HL : Hid (ls.length = 12) := (mv_shape h1).1
    have H4 := Lib.hid (mv_shape h1).2.1
    have f0 := (inR_iff.1 h2).1
    have f1 := (inR_iff.1 h2).2
    have f12 : f < 12 := by omega
    have HV := Lib.hid h1
    have t0 := (inR_iff.1 h3).1
    have t1 := (inR_iff.1 h3).2
    have t12 : t < 12 := by omega
    go_enter Try.func21, Try.ntmps21
    go_wp2_with (first | (go_at_call 10; refine (implMemoryValid_c B a cap ls _ H.out HS.out).mono ?_; rintro e w' ⟨rfl, rfl⟩) | (go_at_call 34; refine (isFrame_c _ _).mono ?_; rintro e w' ⟨rfl, rfl⟩) | (go_at_call 35; refine (isPlace_c _ _).mono ?_; rintro e w' ⟨rfl, rfl⟩) | (go_at_call 42; refine (isWord_c _ _).mono ?_; rintro e w' ⟨rfl, rfl⟩))
    refine (ownWords_c B a cap ls _ H.out hB HV.out).mono ?_
    rintro e w1 ⟨v, rfl, ho, hg⟩
    have hm1 := H.out.gnone hg hB
    obtain ⟨b, off, b', off', rc, ha, _, _, c1, cc⟩ := hm1.four (i := f.toNat) (by rw [HL.out]; omega) (H4.out _ (by omega))
    subst ha
    have HC := Lib.hid (news_four cc (H4.out f.toNat (by omega)))
    obtain ⟨g, cap2, rfl⟩ : ∃ g cap2, v = .slice (some ⟨g, 0, none⟩) 12 cap2 := by
      rcases ho.cases with ⟨_, e⟩ | ⟨g, cap2, e, _⟩
      · have := HL.out; rw [e] at this; cases this
      · exact ⟨g, cap2, by rw [e, HL.out]⟩
    obtain ⟨vs, v1, v2⟩ := ho
    have h4t := H4.out t.toNat (by omega)
    have hlt : ls.length = 12 := HL.out
    obtain ⟨g2, rc2, e2, c2, _, hrow, _, _, _, _, _, _⟩ := v2.four (by rw [v1, hlt]) v1 (f := t.toNat) (by omega) h4t
    obtain ⟨cur, hcur, hfit, hover⟩ := hrow.over h4t
    have HW : Hid (w.grownBy (w1.drew.setRow g2 (((ls.getD f.toNat []).map (Value.int .i64)) ++ cur.toList.drop 4).toArray) none ∧ OwnM (w1.drew.setRow g2 (((ls.getD f.toNat []).map (Value.int .i64)) ++ cur.toList.drop 4).toArray) w.heap.size w1.heap.size (.slice (some ⟨g, 0, none⟩) 12 cap2) (ls.set t.toNat (ls.getD f.toNat []))) := by
      have h5 := hover (ls.getD f.toNat []) (H4.out f.toNat (by omega))
      have hw := OwnM.wrote v1 v2 (k := t.toNat) (by omega) (by rw [e2]; exact h5.2) (by rw [e2]; exact h5.1)
      exact ⟨none_drewN (((Turned.of_none hg _ _).trans hw.2).gnone (Nat.le_refl _)) 1, ⟨vs, by rw [List.length_set]; exact v1, hw.1.gnone (drewN_none _ 1)⟩⟩
    have hfl : f < (ls.length : Int) := by omega
    have HCur := Lib.hid hcur
    have HFit := Lib.hid hfit
    have H4' := Lib.hid (H4.out f.toNat (by omega))
    clear hm1 cc v2 v1 e2 hrow hover hcur hfit h4t hlt hg
    generalize ls.getD f.toNat [] = l at *
    go_wp2_with fail
    go_still_tail 8, (by kernel_rfl)
    change wpList _ _ _ _ _ w1.drew
    refine wpList_copy_all rfl (.tmp 27) (.tmp 31) 26 26 rfl 3 Try.underlying26 (by kernel_rfl) g2 4 rc2 ⟨b', off', none⟩ rc rfl rfl cur 3 HCur.out (l.map (Value.int .i64)) (by rw [List.length_map, H4'.out]) HC.out HFit.out (ints_oneCell _ _) ?_
    have HZ : Hid ((w1.drew.setRow g2 ((l.map (Value.int .i64)) ++ cur.toList.drop 4).toArray).heap.size = w1.heap.size) := by show _ = _; simp
    generalize w1.drew.setRow g2 ((l.map (Value.int .i64)) ++ cur.toList.drop 4).toArray = w3 at *
    go_wp2
    go_ret2
    exact ⟨_, rfl, by rw [HZ.out]; exact HW.out.2, HW.out.1⟩
set_option maxHeartbeats 1000000 in
theorem implMemoryClear_c (B : Nat) (a : Option Addr) (cap : Nat) (ls : List (List Int)) (f : Int) (w : World) (h : Mem w B a ls) (hB : B ≤ w.heap.size) (hs : Small ls) :
    Calls Try.prog 16 #[.slice a ls.length cap, .int .i64 f] w (NewMB (mlB ls f) (mlL ls f) w) := by
  have H := Lib.hid h
  have HS := Lib.hid hs
  clear h hs
  rcases ml_cases ls f with ⟨hb, hL, hc⟩ | ⟨hb, hL, h1, h2⟩
  · rw [hb, hL]
    clear hb hL
    rcases hc with h1 | ⟨h1, h2⟩
    all_goals
      go_enter Try.func16, Try.ntmps16
      go_wp2_with (first | (go_at_call 10; refine (implMemoryValid_c B a cap ls _ H.out HS.out).mono ?_; rintro e w' ⟨rfl, rfl⟩) | (go_at_call 34; refine (isFrame_c _ _).mono ?_; rintro e w' ⟨rfl, rfl⟩) | (go_at_call 35; refine (isPlace_c _ _).mono ?_; rintro e w' ⟨rfl, rfl⟩) | (go_at_call 42; refine (isWord_c _ _).mono ?_; rintro e w' ⟨rfl, rfl⟩))
      go_ret2
      exact ⟨_, rfl, OwnM.nil _ _ _, grown_refl _ _⟩
  · rw [hb, hL]
    clear hb hL
    have HL : Hid (ls.length = 12) := (mv_shape h1).1
    have H4 := Lib.hid (mv_shape h1).2.1
    have f0 := (inR_iff.1 h2).1
    have f1 := (inR_iff.1 h2).2
    have f12 : f < 12 := by omega
    have HV := Lib.hid h1
    have hzv : ∀ w : World, (zeroValue 3).run Try.prog w = .ok (.int .i64 0) w := fun _ => by kernel_rfl
    go_enter Try.func16, Try.ntmps16
    go_wp2_with (first | (go_at_call 10; refine (implMemoryValid_c B a cap ls _ H.out HS.out).mono ?_; rintro e w' ⟨rfl, rfl⟩) | (go_at_call 34; refine (isFrame_c _ _).mono ?_; rintro e w' ⟨rfl, rfl⟩) | (go_at_call 35; refine (isPlace_c _ _).mono ?_; rintro e w' ⟨rfl, rfl⟩) | (go_at_call 42; refine (isWord_c _ _).mono ?_; rintro e w' ⟨rfl, rfl⟩))
    refine (ownWords_c B a cap ls _ H.out hB HV.out).mono ?_
    rintro e w1 ⟨v, rfl, ho, hg⟩
    obtain ⟨g, cap2, rfl⟩ : ∃ g cap2, v = .slice (some ⟨g, 0, none⟩) 12 cap2 := by
      rcases ho.cases with ⟨_, e⟩ | ⟨g, cap2, e, _⟩
      · have := HL.out; rw [e] at this; cases this
      · exact ⟨g, cap2, by rw [e, HL.out]⟩
    obtain ⟨vs, v1, v2⟩ := ho
    have h4t := H4.out f.toNat (by omega)
    have hlt : ls.length = 12 := HL.out
    obtain ⟨g2, rc2, e2, c2, _, hrow, hcc, hff, _, _, _, _⟩ := v2.four (by rw [v1, hlt]) v1 (f := f.toNat) (by omega) h4t
    have hz := hrow.zeros h4t
    have HW : Hid (w.grownBy ((((w1.setCell ⟨g2, 0, none⟩ (.int .i64 0)).setCell ⟨g2, 1, none⟩ (.int .i64 0)).setCell ⟨g2, 2, none⟩ (.int .i64 0)).setCell ⟨g2, 3, none⟩ (.int .i64 0)) none ∧ OwnM ((((w1.setCell ⟨g2, 0, none⟩ (.int .i64 0)).setCell ⟨g2, 1, none⟩ (.int .i64 0)).setCell ⟨g2, 2, none⟩ (.int .i64 0)).setCell ⟨g2, 3, none⟩ (.int .i64 0)) w.heap.size w1.heap.size (.slice (some ⟨g, 0, none⟩) 12 cap2) (ls.set f.toNat [0, 0, 0, 0])) := by
      have hw := OwnM.wrote v1 v2 (k := f.toNat) (by omega) (by rw [e2]; exact hz.2) (by rw [e2]; exact hz.1)
      exact ⟨((Turned.of_none hg _ _).trans hw.2).gnone (Nat.le_refl _), ⟨vs, by rw [List.length_set]; exact v1, hw.1⟩⟩
    have HC : Hid (∀ j, j < 4 → (w1.cell? ⟨g2, j, none⟩).isSome = true) := fun j hj => by rw [hcc j hj]; rfl
    have HF := Lib.hid (fun j (_ : j < 4) => hff j)
    clear v2 v1 e2 hrow hz hcc hff h4t hlt hg
    go_wp2_with (with_reducible refine wpList_clear4 rfl (.tmp 20) 26 3 rfl Try.underlying26 hzv g2 rc2 rfl HC.out HF.out ?_)
    go_ret2
    exact ⟨_, rfl, by simpa [World.setCell] using HW.out.2, HW.out.1⟩
end Go.Proofs.Ytjmlfjpocjmnpaa
