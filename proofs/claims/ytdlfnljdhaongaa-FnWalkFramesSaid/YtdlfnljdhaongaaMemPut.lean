/-
  Contracts of the functions that copy and change memories. No conditions.
-/
import Derived.Test.YtdlfnljdhaongaaMemFn
import Derived.Test.YtdlfnljdhaongaaMemOwn
import Derived.StillTailTactics
import Derived.Lib.SliceRun
namespace Go.Proofs.Ytdlfnljdhaongaa
open Go.RowKit

/-- A list with a number changed. -/
def putL (ls : List (List Int)) (f t n : Int) : List (List Int) := ls.set f.toNat ((ls.getD f.toNat []).set t.toNat n)
/-- What a change leaves: a list of lists in new memory, and whether there is one. -/
def NewMB (ok : Bool) (ls : List (List Int)) (w : World) (e : Ending) (w' : World) : Prop := ∃ v, e = .returned (.tuple #[v, .bool ok]) ∧ OwnM w' w.heap.size w'.heap.size v ls ∧ w.grownBy w' none
def CopyM (ls : List (List Int)) (w : World) (e : Ending) (w' : World) : Prop := ∃ v, e = .returned v ∧ OwnM w' w.heap.size w'.heap.size v ls ∧ w.grownBy w' none

/-- A further list of the call's own takes the place of list k. -/
theorem Part.swap {w : World} {lo hi g n cap : Nat} {vs : List Value} {k : Nat} {ls : List (List Int)} {r : Value} {l : List Int} (h : Part w lo hi (.slice (some ⟨g, 0, none⟩) n cap) vs ls.length ls) (hn : n = vs.length) (hv : vs.length = ls.length) (hk : k < n) (hhi : hi ≤ w.heap.size)
    (hr : OwnI w hi r l) (hlo : lo ≤ hi) :
    OwnM (w.setCell ⟨g, k, none⟩ r) lo w.heap.size (.slice (some ⟨g, 0, none⟩) n cap) (ls.set k l) ∧ w.grownBy (w.setCell ⟨g, k, none⟩ r) (some g) := by
  subst hn
  have hgh : g < hi := h.top g rfl
  have hgl : lo ≤ g := (h.row.lt g rfl).1
  have hst := h.row.stored k r
  refine ⟨⟨vs.set k r, by rw [List.length_set, List.length_set]; exact hv, ⟨?_, fun g' e => ?_, fun i hi => ?_, fun i hi g' e => ?_, fun i j hij hj g' e => ?_⟩⟩, hst.2⟩
  · have := hst.1
    rw [List.length_set]
    exact this
  · have := h.top g' e
    omega
  · rw [List.length_set] at hi
    rw [getD_setV _ _ _ _ _ hk, getD_setL _ _ _ _ (by omega)]
    split
    · exact (hr.kept hst.2 (by
        rcases e : r.ownBlock with _ | b
        · exact .inl rfl
        · right
          have := hr.lt b e
          intro e2
          have := Option.some.inj e2
          omega)).mono hlo
    · refine (h.own i hi).kept hst.2 ?_
      rcases e : (vs.getD i nilV).ownBlock with _ | b
      · exact .inl rfl
      · right
        intro e2
        have e3 := Option.some.inj e2
        subst e3
        exact (h.apart i hi b e).2 rfl
  · rw [List.length_set] at hi
    rw [getD_setV _ _ _ _ _ hk] at e
    split at e
    · have := hr.lt g' e
      refine ⟨this.2, fun e2 => ?_⟩
      have e3 : g = g' := Option.some.inj e2
      omega
    · rename_i hne
      have := h.apart i hi g' e
      exact ⟨by omega, this.2⟩
  · rw [List.length_set] at hj
    rw [getD_setV _ _ _ _ _ hk] at e ⊢
    split at e
    · rename_i hik
      rw [if_neg (by omega)]
      intro e2
      have := (h.apart j (by omega) g' e2).1
      have := hr.lt g' e
      omega
    · rename_i hne
      split
      · rename_i hjk
        have h1 := (h.apart i (by omega) g' e).1
        intro e2
        have := hr.lt g' e2
        omega
      · exact h.each i j hij (by omega) g' e
/-- A whole row copied over, as a step of a region whose order is open. -/
theorem run_copy_all {P : Program} {w : World} (dT sT ty : TypeId) (elem : TypeId) (hu : P.underlying dT = some (.slice elem)) (hsz : (P.info? elem).map (·.size) = some 1)
    (g n dCap : Nat) (ad : Addr) (sCap : Nat) (cur : Array Value) (t : TypeId) (hg : w.heap[g]? = some (.cells cur t (0, 0))) (cs : List Value) (hn : cs.length = n)
    (hsrc : ∀ j v, cs[j]? = some v → w.cell? (ad.add j) = some v) (hfit : n ≤ cur.size) (h1 : ∀ v ∈ cs, v.oneCell' = true) :
    (Builtin.copy_ #[dT, sT] ty #[.slice (some ⟨g, 0, none⟩) n dCap, .slice (some ad) n sCap]).run P w = .ok (goInt cs.length) (w.setRow g (cs ++ cur.toList.drop n).toArray) := by
  have hrun := run_copy_row (P := P) w dT sT ty elem g 0 n dCap ad n sCap cur t cs hu hsz hg (by rw [hn]; simp) hsrc (by omega) h1
  simpa [hn] using hrun
theorem wpList_copy_all {P : Program} {w : World} {ops : Array Oper} {rest : List Oper} {o : Oper} {a : Act} {Q : Exit → Act → World → Prop} (hgd : o.guard = none) (d s : Operand) (dT sT : TypeId)
    (ho : o.op = .call { callee := .builtin .copy, args := #[d, s], argTypes := #[dT, sT] }) (elem : TypeId) (hu : P.underlying dT = some (.slice elem)) (hsz : (P.info? elem).map (·.size) = some 1)
    (g n dCap : Nat) (ad : Addr) (sCap : Nat) (hd : a.eval d = .slice (some ⟨g, 0, none⟩) n dCap) (hs : a.eval s = .slice (some ad) n sCap) (cur : Array Value) (t : TypeId) (hg : w.heap[g]? = some (.cells cur t (0, 0))) (cs : List Value) (hn : cs.length = n)
    (hsrc : ∀ j v, cs[j]? = some v → w.cell? (ad.add j) = some v) (hfit : n ≤ cur.size) (h1 : ∀ v ∈ cs, v.oneCell' = true)
    (h : wpList P ops Q rest (a.put o.dst (goInt cs.length)) (w.setRow g (cs ++ cur.toList.drop n).toArray)) : wpList P ops Q (o :: rest) a w := by
  refine wpList_plain hgd fun K hK => ?_
  have hrun := run_copy_all (P := P) (w := w) dT sT o.type elem hu hsz g n dCap ad sCap cur t hg cs hn hsrc hfit h1
  unfold Oper.wp
  simp [execOp, ho, resolve, invoke, builtin, hd, hs, hrun, Result.andThen]
  exact hK _ _ h
theorem OwnI.over {w : World} {base g n cap : Nat} {l : List Int} (h : OwnI w base (.slice (some ⟨g, 0, none⟩) n cap) l) (hl : l.length = n) :
    ∃ cur : Array Value, w.heap[g]? = some (.cells cur 3 (0, 0)) ∧ n ≤ cur.size ∧ ∀ l' : List Int, l'.length = n →
      OwnI (w.setRow g (l'.map (Value.int .i64) ++ cur.toList.drop n).toArray) base (.slice (some ⟨g, 0, none⟩) n cap) l' ∧ w.grownBy (w.setRow g (l'.map (Value.int .i64) ++ cur.toList.drop n).toArray) (some g) := by
  subst hl
  rcases h.2 with ⟨h', _⟩ | ⟨g', cap', cur, h', hb, hg, hnc, hcm, hcs, htake⟩
  · simp at h'
  · simp only [Value.slice.injEq, Option.some.injEq, Addr.mk.injEq, and_true, true_and] at h'
    obtain ⟨rfl, rfl⟩ := h'
    refine ⟨cur, hg, by omega, fun l' hl' => ⟨⟨by simp, .inr ⟨g, cap, _, by rw [hl'], hb, setRow_heap w g cur _ _ _ hg, by omega, hcm, ?_, ?_⟩⟩, rfl, rfl, rfl, by simp, fun j _ hj => setRow_other w g j _ (fun e => hj (by rw [e]))⟩⟩
    · simp [hl']; omega
    · simp [hl']
/-- 'clear' of a row of four numbers. -/
theorem wpList_clear4 {P : Program} {w : World} {ops : Array Oper} {rest : List Oper} {o : Oper} {a : Act} {Q : Exit → Act → World → Prop} (hgd : o.guard = none) (s : Operand) (t e : TypeId)
    (ho : o.op = .call { callee := .builtin .clear, args := #[s], argTypes := #[t] }) (ht : P.underlying t = some (.slice e)) (hv : ∀ w, (zeroValue e).run P w = .ok (.int .i64 0) w)
    (g c : Nat) (hs : a.eval s = .slice (some ⟨g, 0, none⟩) 4 c) (hc : ∀ j, j < 4 → (w.cell? ⟨g, j, none⟩).isSome = true) (hf : ∀ j, j < 4 → w.frozen? ⟨g, j, none⟩ = false)
    (h : wpList P ops Q rest (a.put o.dst (.tuple #[])) ((((w.setCell ⟨g, 0, none⟩ (.int .i64 0)).setCell ⟨g, 1, none⟩ (.int .i64 0)).setCell ⟨g, 2, none⟩ (.int .i64 0)).setCell ⟨g, 3, none⟩ (.int .i64 0))) : wpList P ops Q (o :: rest) a w := by
  refine wpList_plain hgd fun K hK => ?_
  have hrun := Lib.run_clear_slice (P := P) w t e o.type (.int .i64 0) ht hv rfl rfl g 0 4 c (by omega) (fun j hj => by rw [Nat.zero_add]; exact hc j hj) (fun j hj => by rw [Nat.zero_add]; exact hf j hj)
  simp only [List.replicate, World.setCells] at hrun
  unfold Oper.wp
  simp [execOp, ho, resolve, invoke, builtin, hs, hrun, Result.andThen]
  exact hK _ _ h
theorem OwnI.zeros {w : World} {base g cap : Nat} {l : List Int} (h : OwnI w base (.slice (some ⟨g, 0, none⟩) 4 cap) l) (hl : l.length = 4) :
    OwnI ((((w.setCell ⟨g, 0, none⟩ (.int .i64 0)).setCell ⟨g, 1, none⟩ (.int .i64 0)).setCell ⟨g, 2, none⟩ (.int .i64 0)).setCell ⟨g, 3, none⟩ (.int .i64 0)) base (.slice (some ⟨g, 0, none⟩) 4 cap) [0, 0, 0, 0] ∧
      w.grownBy ((((w.setCell ⟨g, 0, none⟩ (.int .i64 0)).setCell ⟨g, 1, none⟩ (.int .i64 0)).setCell ⟨g, 2, none⟩ (.int .i64 0)).setCell ⟨g, 3, none⟩ (.int .i64 0)) (some g) := by
  have h' : w.ownsRow base 3 1 (.slice (some ⟨g, 0, none⟩) 4 cap) 4 (l.map (Value.int .i64)) := by unfold OwnI at h; rw [hl] at h; exact h
  have s0 := h'.stored 0 (.int .i64 0)
  have s1 := s0.1.stored 1 (.int .i64 0)
  have s2 := s1.1.stored 2 (.int .i64 0)
  have s3 := s2.1.stored 3 (.int .i64 0)
  refine ⟨?_, grown_trans (grown_trans (grown_trans s0.2 s1.2) s2.2) s3.2⟩
  have := s3.1
  match l, hl with
  | [x0, x1, x2, x3], _ => exact this
/-- A row of a valid memory that the call made. -/
theorem Part.four {w : World} {lo hi g n cap : Nat} {vs : List Value} {ls : List (List Int)} (h : Part w lo hi (.slice (some ⟨g, 0, none⟩) n cap) vs ls.length ls) (hn : n = vs.length) (hv : vs.length = ls.length) {f : Nat} (hf : f < n) (h4 : (ls.getD f []).length = 4) :
    ∃ g2 rc, vs.getD f nilV = .slice (some ⟨g2, 0, none⟩) 4 rc ∧ w.cell? ⟨g, f, none⟩ = some (.slice (some ⟨g2, 0, none⟩) 4 rc) ∧ w.frozen? ⟨g, f, none⟩ = false ∧ OwnI w lo (.slice (some ⟨g2, 0, none⟩) 4 rc) (ls.getD f []) ∧
      (∀ j, j < 4 → w.cell? ⟨g2, j, none⟩ = some (.int .i64 ((ls.getD f []).getD j 0))) ∧ (∀ j, w.frozen? ⟨g2, j, none⟩ = false) ∧ lo ≤ g2 ∧ g2 < hi ∧ g2 < w.heap.size ∧ g2 ≠ g := by
  have ho := h.own f (by omega)
  have hc := h.cell hn hf
  rcases ho.2 with ⟨e, h0⟩ | ⟨g2, rc, cur, e, hb, hg, hnc, hcm, hcs, htake⟩
  · omega
  · rw [h4] at e
    have ho' := ho
    rw [e] at ho hc
    have hown : w.ownsRow lo 3 1 (.slice (some ⟨g2, 0, none⟩) 4 rc) 4 ((ls.getD f []).map (Value.int .i64)) := by unfold OwnI at ho; rw [h4] at ho; exact ho
    have hap := h.apart f (by omega) g2 (by rw [e]; rfl)
    refine ⟨g2, rc, e, hc.1, hc.2, ho, fun j hj => ?_, fun j => hown.frozenAt j, hb, hap.1, (Array.getElem?_eq_some_iff.1 hg).1, fun e2 => hap.2 (by rw [e2]; rfl)⟩
    have := hown.cellAt j (by omega)
    rw [this, List.getElem?_map, getD_some _ j 0 (by omega)]
    rfl
/-- A number is stored at a place of a list that the call made. -/
theorem OwnM.put_ {w : World} {lo hi : Nat} {v : Value} {ls : List (List Int)} (h : OwnM w lo hi v ls) (hl : ls.length = 12) (h4 : ∀ i, i < 12 → (ls.getD i []).length = 4) {f t : Int} (f0 : 0 ≤ f) (f1 : f ≤ 11) (t0 : 0 ≤ t) (t1 : t ≤ 3) (x : Int) :
    ∃ g cap g2 rc y, v = .slice (some ⟨g, 0, none⟩) 12 cap ∧ w.cell? ⟨g, f.toNat, none⟩ = some (.slice (some ⟨g2, 0, none⟩) 4 rc) ∧ w.cell? ⟨g2, t.toNat, none⟩ = some y ∧ w.frozen? ⟨g2, t.toNat, none⟩ = false ∧
      OwnM (w.setCell ⟨g2, t.toNat, none⟩ (.int .i64 x)) lo hi v (putL ls f t x) ∧ Turned lo hi w (w.setCell ⟨g2, t.toNat, none⟩ (.int .i64 x)) := by
  rcases h.cases with ⟨_, h0⟩ | ⟨g, cap, rfl, _, _, _, _, _⟩
  · rw [h0] at hl; cases hl
  · obtain ⟨vs, v1, v2⟩ := h
    have h4f := h4 f.toNat (by omega)
    obtain ⟨g2, rc, e, hc, hf, ho, hcc, hff, _, _, _, _⟩ := v2.four v1.symm v1 (f := f.toNat) (by omega) h4f
    have hown : w.ownsRow lo 3 1 (.slice (some ⟨g2, 0, none⟩) 4 rc) 4 ((ls.getD f.toNat []).map (Value.int .i64)) := by unfold OwnI at ho; rw [h4f] at ho; exact ho
    have hst := hown.stored t.toNat (.int .i64 x)
    have hr : OwnI (w.setCell ⟨g2, t.toNat, none⟩ (.int .i64 x)) lo (vs.getD f.toNat nilV) ((ls.getD f.toNat []).set t.toNat x) := by
      rw [e]
      unfold OwnI
      rw [List.length_set, h4f, List.map_set]
      exact hst.1
    have hw := OwnM.wrote v1 v2 (k := f.toNat) (by omega) (by rw [e]; exact hst.2) hr
    exact ⟨g, cap, g2, rc, _, by rw [hl], hc, hcc t.toNat (by omega), hff _, ⟨vs, by unfold putL; rw [List.length_set]; exact v1, hw.1⟩, hw.2⟩
def mpB (ls : List (List Int)) (f t n : Int) : Bool := mvB ls && (inR f 0 11 && (inR t 0 3 && inR n 0 9999))
def mpL (ls : List (List Int)) (f t n : Int) : List (List Int) := if mpB ls f t n then putL ls f t n else []
theorem mp_cases (ls : List (List Int)) (f t n : Int) :
    (mpB ls f t n = false ∧ mpL ls f t n = [] ∧ (mvB ls = false ∨ mvB ls = true ∧ inR f 0 11 = false ∨ mvB ls = true ∧ inR f 0 11 = true ∧ inR t 0 3 = false ∨ mvB ls = true ∧ inR f 0 11 = true ∧ inR t 0 3 = true ∧ inR n 0 9999 = false)) ∨
    (mpB ls f t n = true ∧ mpL ls f t n = putL ls f t n ∧ mvB ls = true ∧ inR f 0 11 = true ∧ inR t 0 3 = true ∧ inR n 0 9999 = true) := by
  rcases h1 : mvB ls <;> rcases h2 : inR f 0 11 <;> rcases h3 : inR t 0 3 <;> rcases h4 : inR n 0 9999 <;> simp [mpB, mpL, h1, h2, h3, h4]
theorem lit_new (w : World) : OwnM (w.alloc (.cells #[] 26)) w.heap.size (w.alloc (.cells #[] 26)).heap.size (.slice (some ⟨w.heap.size, 0, none⟩) 0 0) [] := (OwnM.lit w w.heap.size (Nat.le_refl _)).mono (by simp)
-- GENERATED BY gen_memput.py FROM HERE
def mcB (ls : List (List Int)) (f t : Int) : Bool := mvB ls && (inR f 0 11 && inR t 0 11)
def mcL (ls : List (List Int)) (f t : Int) : List (List Int) := if mcB ls f t then ls.set t.toNat (ls.getD f.toNat []) else []
theorem mc_cases (ls : List (List Int)) (f t : Int) :
    (mcB ls f t = false ∧ mcL ls f t = [] ∧ (mvB ls = false ∨ mvB ls = true ∧ inR f 0 11 = false ∨ mvB ls = true ∧ inR f 0 11 = true ∧ inR t 0 11 = false)) ∨
    (mcB ls f t = true ∧ mcL ls f t = ls.set t.toNat (ls.getD f.toNat []) ∧ mvB ls = true ∧ inR f 0 11 = true ∧ inR t 0 11 = true) := by
  rcases h1 : mvB ls <;> rcases h2 : inR f 0 11 <;> rcases h3 : inR t 0 11 <;> simp [mcB, mcL, h1, h2, h3]
def mlB (ls : List (List Int)) (f : Int) : Bool := mvB ls && inR f 0 11
def mlL (ls : List (List Int)) (f : Int) : List (List Int) := if mlB ls f then ls.set f.toNat [0, 0, 0, 0] else []
theorem ml_cases (ls : List (List Int)) (f : Int) :
    (mlB ls f = false ∧ mlL ls f = [] ∧ (mvB ls = false ∨ mvB ls = true ∧ inR f 0 11 = false)) ∨ (mlB ls f = true ∧ mlL ls f = ls.set f.toNat [0, 0, 0, 0] ∧ mvB ls = true ∧ inR f 0 11 = true) := by
  rcases h1 : mvB ls <;> rcases h2 : inR f 0 11 <;> simp [mlB, mlL, h1, h2]
theorem Mem.four {w : World} {B : Nat} {a : Option Addr} {ls : List (List Int)} (h : Mem w B a ls) {i : Nat} (hi : i < ls.length) (h4 : (ls.getD i []).length = 4) :
    ∃ b off b' off' rc, a = some ⟨b, off, none⟩ ∧ b < B ∧ b' < B ∧ w.cell? ⟨b, off + i, none⟩ = some (.slice (some ⟨b', off', none⟩) 4 rc) ∧ ∀ j, j < 4 → w.cell? ⟨b', off' + j, none⟩ = some (.int .i64 ((ls.getD i []).getD j 0)) := by
  obtain ⟨b, off, ha, hb, ra, rc, hc, _, hI⟩ := h.at_ hi
  rw [h4] at hc
  rcases hI with h0 | ⟨b', off', rfl, hb', hcc⟩
  · rw [h0] at h4; cases h4
  · exact ⟨b, off, b', off', rc, ha, hb, hb', hc, fun j hj => hcc j (by rw [h4]; exact hj)⟩
theorem news_four {w : World} {b off : Nat} {l : List Int} (hcc : ∀ j, j < 4 → w.cell? ⟨b, off + j, none⟩ = some (.int .i64 (l.getD j 0))) (h4 : l.length = 4) : ∀ j u, (l.map (Value.int .i64))[j]? = some u → w.cell? ((⟨b, off, none⟩ : Addr).add j) = some u := by
  intro j u hu
  rw [List.getElem?_map] at hu
  obtain ⟨x, hx, rfl⟩ := Option.map_eq_some_iff.1 hu
  have hj : j < l.length := (List.getElem?_eq_some_iff.1 hx).1
  rw [Addr.add_lit, hcc j (by omega), List.getD_eq_getElem?_getD, hx]; rfl
/-- A fresh list is stored into the outer row. -/
theorem OwnM.swap_ {w0 w w2 : World} {hi : Nat} {v r : Value} {ls : List (List Int)} {l : List Int} (h : OwnM w w0.heap.size hi v ls) (hh : hi ≤ w.heap.size) (h0 : w0.grownBy w none) (hg : w.grownBy w2 none) (hl : ls.length = 12) {t : Nat} (ht : t < 12) (hr : OwnI w2 w.heap.size r l) :
    ∃ g cap y, v = .slice (some ⟨g, 0, none⟩) 12 cap ∧ w2.cell? ⟨g, t, none⟩ = some y ∧ w2.frozen? ⟨g, t, none⟩ = false ∧ OwnM (w2.setCell ⟨g, t, none⟩ r) w0.heap.size (w2.setCell ⟨g, t, none⟩ r).heap.size v (ls.set t l) ∧ w0.grownBy (w2.setCell ⟨g, t, none⟩ r) none := by
  rcases h.cases with ⟨_, e⟩ | ⟨g, cap, rfl, hg1, _, _, _, _⟩
  · rw [e] at hl; cases hl
  · obtain ⟨vs, v1, v2⟩ := h
    have v3 := (v2.gnone hg).mono hh
    have hc := v3.cell v1.symm (i := t) (by omega)
    have hs := v3.swap v1.symm v1 (k := t) (by omega) hg.size hr h0.size
    refine ⟨g, cap, _, by rw [hl], hc.1, hc.2, ?_, none_setCell (none_trans h0 hg) hg1 _⟩
    have := hs.1
    simpa [World.setCell] using this
end Go.Proofs.Ytdlfnljdhaongaa
