/- Texts of the parser's walk, laid together. -/
import Derived.Test.YtbfhglaaombglaaDoorIgB
import Derived.Test.YtbfhglaaombglaaDoorIgA
import Derived.Maps.AppendAt
import Derived.Laws.ResultCell
import Derived.Deep.CutBlock
import Derived.Deep.DeepCutAuto
import Derived.Test.YtbfhglaaombglaaDoorPIdlParsesx0
import Derived.Maps.Range
/- The parser, as it lies in memory; what the next piece is. -/
namespace Go.Proofs.YtbfhglaaombglaaDoor
set_option linter.unusedVariables false
set_option linter.unusedSimpArgs false
open Go.RowKit Go.Proofs.YtbfhglaaombglaaDoorW.PrintWords

/-- Pieces, as they are read. -/
def TkRd (w : World) (A : Option Addr) (c : Nat) (l : List Tk) : Prop :=
  (l.length ≤ c ∧ l.length ≤ 20000) ∧ c ≤ 9223372036854775807 ∧ (∀ t ∈ l, t.text.size ≤ 16384) ∧ (0 < l.length → ∃ g o, A = some ⟨g, o, none⟩ ∧ ∀ j t, l[j]? = some t →
    w.cell? ⟨g, o + j * 3, none⟩ = some (.int .i64 (t.kind : Int)) ∧ w.cell? ⟨g, o + j * 3 + 1, none⟩ = some (.string t.text) ∧ w.cell? ⟨g, o + j * 3 + 2, none⟩ = some (.int .i64 (t.at_ : Int)))
theorem TkRd.drop1 {w : World} {g o : Nat} {c : Nat} {l : List Tk} (h : TkRd w (some ⟨g, o, none⟩) c l) (hn : 0 < l.length) : TkRd w (if c = 1 then some ⟨g, o, none⟩ else (some (⟨g, o, none⟩ : Addr)).map (·.add (1 * 3))) (c - 1) l.tail := by
  obtain ⟨h1, h2, h3, h4⟩ := h
  refine ⟨⟨by rw [List.length_tail]; omega, by rw [List.length_tail]; omega⟩, by omega, fun t ht => h3 t (List.mem_of_mem_tail ht), fun hm => ?_⟩
  rw [List.length_tail] at hm
  obtain ⟨g', o', e, hc⟩ := h4 hn
  cases e
  rw [if_neg (by omega)]
  refine ⟨g, o + 3, by simp [Addr.add], fun j t hj => ?_⟩
  rw [List.getElem?_tail] at hj
  have := hc (j + 1) t hj
  rw [show o + 3 + j * 3 = o + (j + 1) * 3 by omega]
  exact this
/-- The parser at block p, within a call that began at w0, where the pieces lay already. -/
structure PS (w0 w : World) (p : Nat) (st : St) : Prop where
  par : ∃ A c, w.heap[p]? = some (.cells #[.slice A st.1.length c, .bool st.2] 54 (0, 0)) ∧ TkRd w0 A c st.1
  tab : Tabs w0
  bel : Below w0.heap.size w0 w
  hp : w0.heap.size ≤ p
theorem PS.tabs {w0 w : World} {p : Nat} {st : St} (h : PS w0 w p st) : Tabs w := tabs_below h.tab h.bel
theorem PS.lt {w0 w : World} {p : Nat} {st : St} (h : PS w0 w p st) : p < w.heap.size := by
  obtain ⟨A, c, hb, _⟩ := h.par
  exact blk_lt hb
theorem below_grownBy {w w1 : World} (hb : Below w.heap.size w w1) (row : Option Nat) : w.grownBy w1 row := ⟨hb.os, hb.tape, hb.output, hb.size, fun k hk _ => hb.block k hk⟩
theorem PS.below {w0 w w1 : World} {p : Nat} {st : St} (h : PS w0 w p st) (hb : Below w.heap.size w w1) : PS w0 w1 p st := by
  obtain ⟨A, c, hk, hr⟩ := h.par
  exact ⟨⟨A, c, (hb.block _ (blk_lt hk)).trans hk, hr⟩, h.tab, h.bel.trans (hb.mono h.bel.size), h.hp⟩
/-- A store elsewhere. -/
theorem PS.far {w0 w : World} {p : Nat} {st : St} (h : PS w0 w p st) {g : Nat} (hg : g ≠ p) (hl : w0.heap.size ≤ g) (j : Nat) (u : Value) : PS w0 (w.setCell ⟨g, j, none⟩ u) p st := by
  obtain ⟨A, c, hk, hr⟩ := h.par
  exact ⟨⟨A, c, (Below.heap_setCell _ _ _ _ (fun e => hg e.symm)).trans hk, hr⟩, h.tab, h.bel.setCell (p := ⟨g, j, none⟩) hl u, h.hp⟩
/-- Another block grew. -/
theorem PS.other {w0 w w1 : World} {p : Nat} {st : St} (h : PS w0 w p st) {row : Option Nat} (hg : w.grownBy w1 row) (hn : some p ≠ row) (hl : ∀ k, row = some k → w0.heap.size ≤ k) : PS w0 w1 p st := by
  obtain ⟨A, c, hk, hr⟩ := h.par
  exact ⟨⟨A, c, (hg.block p (blk_lt hk) hn).trans hk, hr⟩, h.tab, h.bel.grown hg h.bel.size hl, h.hp⟩
theorem PS.ch {w0 w w1 : World} {p : Nat} {st : St} (h : PS w0 w p st) (hg : w.grownBy w1 (some p)) : Below w0.heap.size w0 w1 :=
  h.bel.grown hg h.bel.size (fun k hk => by injection hk with hk; rw [← hk]; exact h.hp)
theorem grown_far {w w1 : World} {row : Option Nat} (h : w.grownBy w1 row) {g : Nat} (hg : w.heap.size ≤ g) (j : Nat) (u : Value) : w.grownBy (w1.setCell ⟨g, j, none⟩ u) row :=
  ⟨h.os, h.tape, h.output, by rw [World.size_setCell]; exact h.size, fun k hk hne => (Below.heap_setCell _ _ _ _ (fun e => by have e' : k = g := e; omega)).trans (h.block k hk hne)⟩
/-- One that did not fit. -/
theorem PS.bad {w0 w : World} {p : Nat} {st : St} (h : PS w0 w p st) : PS w0 (w.setCell ⟨p, 1, none⟩ (.bool true)) p (st.1, true) ∧ w.grownBy (w.setCell ⟨p, 1, none⟩ (.bool true)) (some p) := by
  obtain ⟨A, c, hk, hr⟩ := h.par
  have hg : w.grownBy (w.setCell ⟨p, 1, none⟩ (.bool true)) (some p) := ⟨rfl, rfl, rfl, by simp, fun k _ hne => Below.heap_setCell _ _ _ _ (fun e => hne (by rw [e]))⟩
  have h9 := blk_set hk 1 (.bool true)
  simp only [List.setIfInBounds_toArray, List.set_cons_zero, List.set_cons_succ] at h9
  exact ⟨⟨⟨A, c, h9, hr⟩, h.tab, h.ch hg, h.hp⟩, hg⟩
/-- The next piece is read. -/
theorem PS.next {w0 w : World} {p : Nat} {st : St} (h : PS w0 w p st) {g o c : Nat} (hk : w.heap[p]? = some (.cells #[.slice (some ⟨g, o, none⟩) st.1.length c, .bool st.2] 54 (0, 0))) (hr : TkRd w0 (some ⟨g, o, none⟩) c st.1) (hn : 0 < st.1.length)
    (A7 : Option Addr) (n7 c7 : Nat) (hv : (if c = 1 then some ⟨g, o, none⟩ else (some (⟨g, o, none⟩ : Addr)).map (·.add (1 * 3))) = A7 ∧ st.1.length - 1 = n7 ∧ c - 1 = c7) :
    PS w0 (w.setCell ⟨p, 0, none⟩ (.slice A7 n7 c7)) p (st.1.tail, st.2) ∧ w.grownBy (w.setCell ⟨p, 0, none⟩ (.slice A7 n7 c7)) (some p) := by
  obtain ⟨v, hv9⟩ : ∃ v, Value.slice A7 n7 c7 = v := ⟨_, rfl⟩
  rw [hv9]
  have hg : w.grownBy (w.setCell ⟨p, 0, none⟩ v) (some p) := ⟨rfl, rfl, rfl, by simp, fun k _ hne => Below.heap_setCell _ _ _ _ (fun e => hne (by rw [e]))⟩
  have h9 := blk_set hk 0 v
  simp only [List.setIfInBounds_toArray, List.set_cons_zero, List.set_cons_succ] at h9
  refine ⟨⟨⟨_, _, ?_, hr.drop1 hn⟩, h.tab, h.ch hg, h.hp⟩, hg⟩
  rw [h9, List.length_tail, hv.1, hv.2.1, hv.2.2, hv9]
theorem teq_walk (a b : ByteArray) (v : Bool) (h : teq a b = v) : (a.toList == b.toList) = v := by
  rw [← h, teq]
  by_cases e : a = b
  · subst e; simp
  · have h1 : ¬ bs a = bs b := fun h => e (bs_inj h)
    have h2 : ¬ a.toList = b.toList := by
      intro h2
      rw [ByteArray.toList_eq, ByteArray.toList_eq] at h2
      exact h1 (by rw [bs, bs, h2])
    rw [decide_eq_false h1, beq_eq_false_iff_ne]
    exact h2
/-- The head of what is left. -/
theorem PS.head {w0 w : World} {p : Nat} {k : Tk} {l : List Tk} {b : Bool} (h : PS w0 w p (k :: l, b)) : ∃ g o c, w.heap[p]? = some (.cells #[.slice (some ⟨g, o, none⟩) (l.length + 1) c, .bool b] 54 (0, 0)) ∧ TkRd w0 (some ⟨g, o, none⟩) c (k :: l) ∧ k.text.size ≤ 16384 ∧ l.length + 1 ≤ c ∧ c ≤ 9223372036854775807 ∧
    w.cell? ⟨g, o, none⟩ = some (.int .i64 (k.kind : Int)) ∧ w.cell? ⟨g, o + 1, none⟩ = some (.string k.text) ∧ w.cell? ⟨g, o + 2, none⟩ = some (.int .i64 (k.at_ : Int)) := by
  obtain ⟨A, c, hk, hr⟩ := h.par
  obtain ⟨g, o, rfl, hc⟩ := hr.2.2.2 (by simp)
  obtain ⟨a1, a2, a3⟩ := hc 0 k rfl
  replace a1 := pw_cell_below h.bel a1
  replace a2 := pw_cell_below h.bel a2
  replace a3 := pw_cell_below h.bel a3
  rw [Nat.zero_mul, Nat.add_zero] at a1 a2 a3
  exact ⟨g, o, c, hk, hr, hr.2.2.1 k (by simp), by simpa using hr.1.1, hr.2.1, a1, a2, a3⟩
theorem PS.emp {w0 w : World} {p : Nat} {b : Bool} (h : PS w0 w p ([], b)) : ∃ A c, w.heap[p]? = some (.cells #[.slice A 0 c, .bool b] 54 (0, 0)) := by
  obtain ⟨A, c, hk, _⟩ := h.par
  exact ⟨A, c, hk⟩
theorem PS.len {w0 w : World} {p : Nat} {st : St} (h : PS w0 w p st) : st.1.length ≤ 20000 := by
  obtain ⟨A, c, _, hr⟩ := h.par
  exact hr.1.2
/-- How much is left to be done, out of memory. -/
def muW (w : World) (p : Nat) : Nat := match w.cell? ⟨p, 0, none⟩, w.cell? ⟨p, 1, none⟩ with
  | some (.slice _ n _), some (.bool b) => if b then 0 else n + 1
  | _, _ => 0
theorem PS.mu {w0 w : World} {p : Nat} {st : St} (h : PS w0 w p st) : muW w p = mu st := by
  obtain ⟨A, c, hk, _⟩ := h.par
  have c0 : w.cell? ⟨p, 0, none⟩ = some (.slice A st.1.length c) := blk_cell hk 0
  have c1 : w.cell? ⟨p, 1, none⟩ = some (.bool st.2) := blk_cell hk 1
  rw [muW, c0, c1]
  rfl
theorem PS.wrong {w0 w : World} {p : Nat} {st : St} (h : PS w0 w p st) : ∃ v, w.heap[p]? = some (.cells #[v, .bool st.2] 54 (0, 0)) := by
  obtain ⟨A, c, hk, _⟩ := h.par
  exact ⟨_, hk⟩

set_option maxRecDepth 100000 in
theorem looks_any (w0 w : World) (p : Nat) (st : St) (H : Aside0 (PS w0 w p st)) (t : ByteArray) (v : Bool) (hv : Aside0 (takesB t st = v)) :
    Calls Tryd.prog 53 #[.pointer (some ⟨p, 0, none⟩), .string t] w fun e w' => e = .returned (.bool v) ∧ w = w' := by
  obtain ⟨l, b⟩ := st
  cases b with
  | true =>
    obtain ⟨v9, hk⟩ := H.out.wrong
    have c1 : w.cell? ⟨p, 1, none⟩ = some (.bool true) := blk_cell hk 1
    obtain rfl : v = false := hv.out.symm
    clear hk hv
    go_enter Tryd.func53, Tryd.ntmps53
    go_wp2
    go_ret
    exact ⟨rfl, rfl⟩
  | false =>
    cases l with
    | nil =>
      obtain ⟨A, c, hk⟩ := H.out.emp
      have c0 : w.cell? ⟨p, 0, none⟩ = some (.slice A 0 c) := blk_cell hk 0
      have c1 : w.cell? ⟨p, 1, none⟩ = some (.bool false) := blk_cell hk 1
      obtain rfl : v = false := hv.out.symm
      clear hk hv
      go_enter Tryd.func53, Tryd.ntmps53
      go_wp2
      go_ret
      exact ⟨rfl, rfl⟩
    | cons k l =>
      obtain ⟨g, o, c, hk, _, _, hlc, hcm, a1, a2, a3⟩ := H.out.head
      have c0 : w.cell? ⟨p, 0, none⟩ = some (.slice (some ⟨g, o, none⟩) (l.length + 1) c) := blk_cell hk 0
      have c1 : w.cell? ⟨p, 1, none⟩ = some (.bool false) := blk_cell hk 1
      obtain ⟨n, hn⟩ : ∃ n, l.length + 1 = n := ⟨_, rfl⟩
      have hn0 : 0 < n := by omega
      have hn1 : (0 : Int) < (n : Int) := by omega
      have d1 : decide ((0 : Int) < (n : Int)) = true := decide_eq_true hn1
      have d2 : decide (0 < n) = true := decide_eq_true hn0
      rw [hn] at c0
      have ht := teq_walk k.text t v hv.out
      clear hk hv hn hlc a1 a3
      go_enter Tryd.func53, Tryd.ntmps53
      go_wp2
      go_ret
      exact ⟨rfl, rfl⟩
set_option maxRecDepth 100000 in
theorem takes_any (w0 w : World) (p : Nat) (st : St) (H : Aside0 (PS w0 w p st)) (t : ByteArray) (v : Bool) (hv : Aside0 (takesB t st = v)) :
    Calls Tryd.prog 34 #[.pointer (some ⟨p, 0, none⟩), .string t] w fun e w' => e = .returned (.bool v) ∧ Aside0 (PS w0 w' p (takesM t st)) ∧ Aside0 (w.grownBy w' (some p)) := by
  cases v with
  | false =>
    go_enter Tryd.func34, Tryd.ntmps34
    go_wp2_with fail
    refine (looks_any w0 w p st H t false hv).mono ?_
    rintro e w' ⟨rfl, rfl⟩
    go_wp2_with fail
    go_ret
    refine ⟨rfl, ⟨?_⟩, ⟨World.grownBy.refl _ _⟩⟩
    rw [takesM, if_neg (by rw [hv.out]; decide)]
    exact H.out
  | true =>
    obtain ⟨l, b⟩ := st
    obtain ⟨rfl, hne⟩ := takes_some hv.out
    cases l with
    | nil => exact absurd rfl hne
    | cons k l =>
      obtain ⟨g, o, c, hk, hr, _, hlc, hcm, _, _, _⟩ := H.out.head
      have HK := Aside0.mk hk
      have HR := Aside0.mk hr
      have c0 : w.cell? ⟨p, 0, none⟩ = some (.slice (some ⟨g, o, none⟩) (l.length + 1) c) := blk_cell hk 0
      obtain ⟨i1, hi1, _, hsz1, _⟩ := info_parts infoTok
      have hcut := cut_from (P := Tryd.prog) 49 59 .i64 Tryd.underlying49 hi1 3 hsz1 (some ⟨g, o, none⟩) (l.length + 1) c 1 (by omega) (by omega)
      obtain ⟨A7, hA7⟩ : ∃ A, (if c = 1 then some (⟨g, o, none⟩ : Addr) else (some (⟨g, o, none⟩ : Addr)).map (·.add (1 * 3))) = A := ⟨_, rfl⟩
      obtain ⟨n7, hn7⟩ : ∃ n7, l.length + 1 - 1 = n7 := ⟨_, rfl⟩
      obtain ⟨c7, hc7⟩ : ∃ c7, c - 1 = c7 := ⟨_, rfl⟩
      have HV := Aside0.mk (show _ ∧ ((k :: l, false) : St).1.length - 1 = n7 ∧ _ from ⟨hA7, hn7, hc7⟩)
      rw [show ((1 : Int)).toNat = 1 from rfl, hA7, hn7, hc7] at hcut
      obtain ⟨n, hn⟩ : ∃ n, l.length + 1 = n := ⟨_, rfl⟩
      rw [hn] at hcut c0
      have z0 := blk_frozen hk 0
      clear hk hr hA7 hn7 hc7 hn hi1 hsz1 hne hlc
      go_enter Tryd.func34, Tryd.ntmps34
      go_wp2_with fail
      refine (looks_any w0 w p _ H t true hv).mono ?_
      rintro e w' ⟨rfl, rfl⟩
      go_wp2_with fail
      go_ret
      obtain ⟨h1, h2⟩ := H.out.next HK.out HR.out (by simp) A7 n7 c7 HV.out
      refine ⟨rfl, ⟨?_⟩, ⟨h2⟩⟩
      rw [takesM, if_pos hv.out]
      exact h1
end Go.Proofs.YtbfhglaaombglaaDoor

/- The parser: needs, name, number. -/
namespace Go.Proofs.YtbfhglaaombglaaDoor
set_option linter.unusedVariables false
set_option linter.unusedSimpArgs false
open Go.RowKit Go.Proofs.YtbfhglaaombglaaDoorW.PrintWords

/-- The next pieces have to be these. -/
def needAll (ts : List ByteArray) (st : St) : St := ts.foldl (fun s t => need t s) st
theorem needAll_snoc (ts : List ByteArray) (t : ByteArray) (st : St) : needAll (ts ++ [t]) st = need t (needAll ts st) := by simp [needAll]
theorem grown_block {w w1 : World} {g p : Nat} {o : Obj} (hg : w.grownBy w1 (some p)) (h : w.heap[g]? = some o) (hne : g ≠ p) : w1.heap[g]? = some o :=
  (hg.block g (Array.getElem?_eq_some_iff.1 h).1 (fun e => hne (Option.some.inj e))).trans h

set_option maxRecDepth 100000 in
set_option maxHeartbeats 400000 in
theorem needs_any (w0 w : World) (p : Nat) (st : St) (H : Aside0 (PS w0 w p st)) (g : Nat) (ts : List ByteArray) (hk : Aside0 (w.heap[g]? = some (.cells (ts.map Value.string).toArray 9 (0, 0)))) (hgp : g ≠ p) (hn : ts.length ≤ 10) :
    Calls Tryd.prog 32 #[.pointer (some ⟨p, 0, none⟩), .slice (some ⟨g, 0, none⟩) ts.length ts.length] w fun e w' => e = .returned (.tuple #[]) ∧ Aside0 (PS w0 w' p (needAll ts st)) ∧ Aside0 (w.grownBy w' (some p)) := by
  have HG := Aside0.mk hgp
  clear hgp
  go_enter Tryd.func32, Tryd.ntmps32
  go_wp2_with fail
  go_loopw [8] (fun u wr => ∃ j : Nat, u = .int .i64 (j : Int) ∧ j ≤ ts.length ∧ Aside0 (PS w0 wr p (needAll (ts.take j) st)) ∧ Aside0 (w.grownBy wr (some p))) (fun u _ => ts.length - (intOf u).toNat)
  case atStart => exact ⟨0, rfl, Nat.zero_le _, ⟨by rw [List.take_zero]; exact H.out⟩, ⟨World.grownBy.refl _ _⟩⟩
  case round =>
    obtain ⟨j, rfl, hj, HP, HB⟩ := hrel
    by_cases hlt : j < ts.length
    · have d1 : decide ((j : Int) < (ts.length : Int)) = true := decide_eq_true (by omega)
      have d2 : decide (j < ts.length) = true := decide_eq_true hlt
      have d3 : (j : Int) < (ts.length : Int) := by omega
      obtain ⟨t, ht⟩ : ∃ t, ts[j]? = some t := ⟨_, List.getElem?_eq_getElem hlt⟩
      have hk9 := grown_block HB.out hk.out HG.out
      have c0 : wr.cell? ⟨g, j, none⟩ = some (.string t) := by rw [blk_cell hk9]; simp [ht]
      have hta : ts.take (j + 1) = ts.take j ++ [t] := by rw [List.take_add_one, ht]; rfl
      have HTA := Aside0.mk hta
      clear hk9 ht hta
      obtain ⟨s1, hs1⟩ : ∃ s1, needAll (ts.take j) st = s1 := ⟨_, rfl⟩
      rw [hs1] at HP
      have HS1 := Aside0.mk hs1
      clear hs1
      cases hv : takesB t s1 with
      | true =>
        have HV := Aside0.mk hv
        clear hv
        go_wp2_with fail
        refine (takes_any w0 wr p s1 HP t true HV).mono ?_
        rintro e w2 ⟨rfl, HP2, HB2⟩
        have HB3 := Aside0.mk (HB.out.trans HB2.out)
        have HP3 : Aside0 (PS w0 w2 p (needAll (ts.take (j + 1)) st)) := ⟨by
          rw [HTA.out, needAll_snoc, HS1.out, need, if_pos HV.out]
          have h9 := HP2.out
          rw [takesM, if_pos HV.out] at h9
          exact h9⟩
        go_wp2_with fail
        go_roundw
        case rel => exact ⟨j + 1, by go_num, by omega, HP3, HB3⟩
        case measure => simp [intOf]; omega
      | false =>
        have HV := Aside0.mk hv
        clear hv
        go_wp2_with fail
        refine (takes_any w0 wr p s1 HP t false HV).mono ?_
        rintro e w2 ⟨rfl, HP2, HB2⟩
        have h9 := HP2.out
        rw [takesM, if_neg (by rw [HV.out]; decide)] at h9
        obtain ⟨v9, hk9⟩ := h9.wrong
        have c1 : w2.cell? ⟨p, 1, none⟩ = some (.bool s1.2) := blk_cell hk9 1
        have z1 := blk_frozen hk9 1
        obtain ⟨h1, h2⟩ := h9.bad
        have HB3 := Aside0.mk ((HB.out.trans HB2.out).trans h2)
        have HP3 : Aside0 (PS w0 (w2.setCell ⟨p, 1, none⟩ (.bool true)) p (needAll (ts.take (j + 1)) st)) := ⟨by
          rw [HTA.out, needAll_snoc, HS1.out, need, if_neg (by rw [HV.out]; decide)]
          exact h1⟩
        clear h9 hk9 h1 h2
        go_wp2_with fail
        go_roundw
        case rel => exact ⟨j + 1, by go_num, by omega, HP3, HB3⟩
        case measure => simp [intOf]; omega
    · have d1 : decide ((j : Int) < (ts.length : Int)) = false := decide_eq_false (by omega)
      have d2 : decide (j < ts.length) = false := decide_eq_false hlt
      have HPE : Aside0 (PS w0 wr p (needAll ts st)) := ⟨by
        have h9 := HP.out
        rw [List.take_of_length_le (by omega)] at h9
        exact h9⟩
      go_wp2_with fail
      go_end0
      exact ⟨rfl, HPE, HB⟩
/-- Behind a literal of texts. -/
theorem needs_lit (w0 w : World) (p : Nat) (st : St) (H : Aside0 (PS w0 w p st)) (ts : List ByteArray) (hn : ts.length ≤ 10) (s2 : St) (hs : Aside0 (needAll ts st = s2)) (cs : Array Value) (hc : cs = (ts.map Value.string).toArray) (n : Nat) (hl : n = ts.length) :
    Calls Tryd.prog 32 #[.pointer (some ⟨p, 0, none⟩), .slice (some ⟨w.heap.size, 0, none⟩) n n] (w.alloc (.cells cs 9)) fun e w' => e = .returned (.tuple #[]) ∧ Aside0 (PS w0 w' p s2) ∧ Aside0 (w.grownBy w' (some p)) := by
  subst hl
  refine (needs_any w0 _ p st ⟨H.out.below ((Below.refl _ _).alloc (Nat.le_refl _) _)⟩ w.heap.size ts ⟨by rw [heap_alloc_new, hc]⟩ (fun e => by have := H.out.lt; omega) hn).mono ?_
  rintro e w' ⟨rfl, h1, h2⟩
  rw [hs.out] at h1
  exact ⟨rfl, h1, ⟨(World.grownBy_alloc w _ _).trans h2.out⟩⟩
set_option maxRecDepth 100000 in
set_option maxHeartbeats 400000 in
theorem pname_any (w0 w : World) (p : Nat) (st : St) (H : Aside0 (PS w0 w p st)) (v : ByteArray) (hv : Aside0 (nameV st = v)) (s2 : St) (hs : Aside0 (nameM st = s2)) :
    Calls Tryd.prog 33 #[.pointer (some ⟨p, 0, none⟩)] w fun e w' => e = .returned (.string v) ∧ Aside0 (PS w0 w' p s2) ∧ Aside0 (w.grownBy w' (some p)) := by
  cases hok : nameOk st with
  | false =>
    have hv0 : v = ⟨#[]⟩ := by rw [← hv.out, nameV, if_neg (by rw [hok]; decide)]; rfl
    have hs0 : s2 = (st.1, true) := by rw [← hs.out, nameM, if_neg (by rw [hok]; decide)]
    subst hv0 hs0
    obtain ⟨v9, hk9⟩ := H.out.wrong
    have c1 : w.cell? ⟨p, 1, none⟩ = some (.bool st.2) := blk_cell hk9 1
    have z1 := blk_frozen hk9 1
    obtain ⟨h1, h2⟩ := H.out.bad
    have HP := Aside0.mk h1
    have HB := Aside0.mk h2
    clear h1 h2 hs hv
    obtain ⟨l, b⟩ := st
    cases b with
    | true =>
      clear hk9 hok
      go_enter Tryd.func33, Tryd.ntmps33
      go_wp2_with fail
      go_ret
      exact ⟨rfl, HP, HB⟩
    | false =>
      cases l with
      | nil =>
        obtain ⟨A, c, hk⟩ := H.out.emp
        have c0 : w.cell? ⟨p, 0, none⟩ = some (.slice A 0 c) := blk_cell hk 0
        clear hk hk9 hok
        go_enter Tryd.func33, Tryd.ntmps33
        go_wp2_with fail
        go_ret
        exact ⟨rfl, HP, HB⟩
      | cons k l =>
        obtain ⟨g, o, c, hk, _, hts, hlc, hcm, a1, a2, a3⟩ := H.out.head
        have c0 : w.cell? ⟨p, 0, none⟩ = some (.slice (some ⟨g, o, none⟩) (l.length + 1) c) := blk_cell hk 0
        obtain ⟨n, hn⟩ : ∃ n, l.length + 1 = n := ⟨_, rfl⟩
        have hn0 : 0 < n := by omega
        have hn1 : (0 : Int) < (n : Int) := by omega
        have d1 : ((n : Int) == 0) = false := by rw [beq_eq_false_iff_ne]; omega
        have d2 : (n == 0) = false := by rw [beq_eq_false_iff_ne]; omega
        rw [hn] at c0
        have hok2 : (k.kind == 1 && nameG k.text) = false := hok
        clear hk hk9 hn hlc a3 hok
        by_cases hk1 : k.kind = 1
        · have hng : nameG k.text = false := by rw [hk1] at hok2; simpa using hok2
          have HT := Aside0.mk H.out.tabs
          have d3 : ((k.kind : Int) != 1) = false := by rw [hk1]; rfl
          have HNG := Aside0.mk hng
          clear hok2 hk1 hng
          go_enter Tryd.func33, Tryd.ntmps33
          go_wp2_with fail
          refine (name_any k.text w (by omega) HT.out false HNG).mono ?_
          rintro e w1 ⟨rfl, hb1⟩
          have h0 := H.out.below hb1
          obtain ⟨v9, hk9⟩ := h0.wrong
          have c9 : w1.cell? ⟨p, 1, none⟩ = some (.bool false) := blk_cell hk9 1
          have z9 := blk_frozen hk9 1
          obtain ⟨h1, h2⟩ := h0.bad
          have HP1 := Aside0.mk h1
          have HB1 := Aside0.mk ((below_grownBy hb1 (some p)).trans h2)
          clear h0 hk9 h1 h2 hb1
          go_wp2_with fail
          go_ret
          exact ⟨rfl, HP1, HB1⟩
        · have d3 : ((k.kind : Int) != 1) = true := by rw [bne_iff_ne]; omega
          clear hok2 hk1
          go_enter Tryd.func33, Tryd.ntmps33
          go_wp2_with fail
          go_ret
          exact ⟨rfl, HP, HB⟩
  | true =>
    obtain ⟨l, b⟩ := st
    obtain ⟨rfl, hne⟩ := name_some hok
    cases l with
    | nil => exact absurd rfl hne
    | cons k l =>
      have hv0 : v = k.text := by rw [← hv.out, nameV, if_pos hok]; rfl
      have hs0 : s2 = (l, false) := by rw [← hs.out, nameM, if_pos hok]; rfl
      subst hv0 hs0
      obtain ⟨g, o, c, hk, _, hts, hlc, hcm, a1, a2, a3⟩ := H.out.head
      have c0 : w.cell? ⟨p, 0, none⟩ = some (.slice (some ⟨g, o, none⟩) (l.length + 1) c) := blk_cell hk 0
      have c1 : w.cell? ⟨p, 1, none⟩ = some (.bool false) := blk_cell hk 1
      obtain ⟨n, hn⟩ : ∃ n, l.length + 1 = n := ⟨_, rfl⟩
      have hn0 : 0 < n := by omega
      have hn1 : (0 : Int) < (n : Int) := by omega
      have d1 : ((n : Int) == 0) = false := by rw [beq_eq_false_iff_ne]; omega
      have d2 : (n == 0) = false := by rw [beq_eq_false_iff_ne]; omega
      rw [hn] at c0
      have hok2 : (k.kind == 1 && nameG k.text) = true := hok
      rw [Bool.and_eq_true, beq_iff_eq] at hok2
      obtain ⟨hk1, hng⟩ := hok2
      have HT := Aside0.mk H.out.tabs
      have d3 : ((k.kind : Int) != 1) = false := by rw [hk1]; rfl
      have HNG := Aside0.mk hng
      have HN := Aside0.mk hn
      clear hok hk1 hng hk hn a3 hv hs hne
      go_enter Tryd.func33, Tryd.ntmps33
      go_wp2_with fail
      refine (name_any k.text w (by omega) HT.out true HNG).mono ?_
      rintro e w1 ⟨rfl, hb1⟩
      have H1 := Aside0.mk (H.out.below hb1)
      have HB1 := Aside0.mk (below_grownBy hb1 (some p))
      clear hb1 c0 c1 a1 a2 hlc hcm d1 d2 d3 hn0 hn1
      obtain ⟨g1, o1, c1, hk, hr, _, hlc, hcm, a1, a2, a3⟩ := H1.out.head
      have HK := Aside0.mk hk
      have HR := Aside0.mk hr
      have c0 : w1.cell? ⟨p, 0, none⟩ = some (.slice (some ⟨g1, o1, none⟩) (l.length + 1) c1) := blk_cell hk 0
      obtain ⟨i1, hi1, _, hsz1, _⟩ := info_parts infoTok
      have hcut := cut_from (P := Tryd.prog) 49 59 .i64 Tryd.underlying49 hi1 3 hsz1 (some ⟨g1, o1, none⟩) (l.length + 1) c1 1 (by omega) (by omega)
      obtain ⟨A7, hA7⟩ : ∃ A, (if c1 = 1 then some (⟨g1, o1, none⟩ : Addr) else (some (⟨g1, o1, none⟩ : Addr)).map (·.add (1 * 3))) = A := ⟨_, rfl⟩
      obtain ⟨n7, hn7⟩ : ∃ n7, l.length + 1 - 1 = n7 := ⟨_, rfl⟩
      obtain ⟨c7, hc7⟩ : ∃ c7, c1 - 1 = c7 := ⟨_, rfl⟩
      have HV := Aside0.mk (show _ ∧ ((k :: l, false) : St).1.length - 1 = n7 ∧ _ from ⟨hA7, hn7, hc7⟩)
      rw [show ((1 : Int)).toNat = 1 from rfl, hA7, hn7, hc7] at hcut
      rw [HN.out] at hcut c0
      have hn0 : 0 < n := by have := HN.out; omega
      have hn1 : (0 : Int) < (n : Int) := by omega
      have z0 := blk_frozen hk 0
      clear hk hr hA7 hn7 hc7 hi1 hsz1 hlc a1 a3
      go_wp2_with fail
      go_ret
      obtain ⟨h1, h2⟩ := H1.out.next HK.out HR.out (by simp) A7 n7 c7 HV.out
      exact ⟨rfl, ⟨h1⟩, ⟨HB1.out.trans h2⟩⟩
set_option maxRecDepth 100000 in
set_option maxHeartbeats 400000 in
theorem pnumber_any (w0 w : World) (p : Nat) (st : St) (H : Aside0 (PS w0 w p st)) (v : Nat) (hv : Aside0 (numV st = v)) (s2 : St) (hs : Aside0 (numM st = s2)) :
    Calls Tryd.prog 54 #[.pointer (some ⟨p, 0, none⟩)] w fun e w' => e = .returned (.int .i64 (v : Int)) ∧ Aside0 (PS w0 w' p s2) ∧ Aside0 (w.grownBy w' (some p)) := by
  cases hok : numOk st with
  | false =>
    have hv0 : v = 0 := by rw [← hv.out, numV, if_neg (by rw [hok]; decide)]
    have hs0 : s2 = (st.1, true) := by rw [← hs.out, numM, if_neg (by rw [hok]; decide)]
    subst hv0 hs0
    obtain ⟨v9, hk9⟩ := H.out.wrong
    have c1 : w.cell? ⟨p, 1, none⟩ = some (.bool st.2) := blk_cell hk9 1
    have z1 := blk_frozen hk9 1
    obtain ⟨h1, h2⟩ := H.out.bad
    have HP := Aside0.mk h1
    have HB := Aside0.mk h2
    clear h1 h2 hs hv
    obtain ⟨l, b⟩ := st
    cases b with
    | true =>
      clear hk9 hok
      go_enter Tryd.func54, Tryd.ntmps54
      go_wp2_with fail
      go_ret
      exact ⟨rfl, HP, HB⟩
    | false =>
      cases l with
      | nil =>
        obtain ⟨A, c, hk⟩ := H.out.emp
        have c0 : w.cell? ⟨p, 0, none⟩ = some (.slice A 0 c) := blk_cell hk 0
        clear hk hk9 hok
        go_enter Tryd.func54, Tryd.ntmps54
        go_wp2_with fail
        go_ret
        exact ⟨rfl, HP, HB⟩
      | cons k l =>
        obtain ⟨g, o, c, hk, _, hts, hlc, hcm, a1, a2, a3⟩ := H.out.head
        have c0 : w.cell? ⟨p, 0, none⟩ = some (.slice (some ⟨g, o, none⟩) (l.length + 1) c) := blk_cell hk 0
        obtain ⟨n, hn⟩ : ∃ n, l.length + 1 = n := ⟨_, rfl⟩
        have hn0 : 0 < n := by omega
        have hn1 : (0 : Int) < (n : Int) := by omega
        have d1 : ((n : Int) == 0) = false := by rw [beq_eq_false_iff_ne]; omega
        have d2 : (n == 0) = false := by rw [beq_eq_false_iff_ne]; omega
        rw [hn] at c0
        have hok2 : (k.kind == 2 && (numF k.text).2) = false := hok
        clear hk hk9 hn hlc a3 hok
        by_cases hk1 : k.kind = 2
        · obtain ⟨x, y, hxy⟩ : ∃ x y, numF k.text = (x, y) := ⟨_, _, rfl⟩
          have hng : y = false := by rw [hk1, hxy] at hok2; simpa using hok2
          subst hng
          have d3 : ((k.kind : Int) != 2) = false := by rw [hk1]; rfl
          have HNG := Aside0.mk hxy
          clear hok2 hk1 hxy
          go_enter Tryd.func54, Tryd.ntmps54
          go_wp2_with fail
          refine (number_any k.text w (by omega) x false HNG).mono ?_
          rintro e w1 ⟨rfl, hb1⟩
          have h0 := H.out.below hb1.out
          obtain ⟨v9, hk9⟩ := h0.wrong
          have c9 : w1.cell? ⟨p, 1, none⟩ = some (.bool false) := blk_cell hk9 1
          have z9 := blk_frozen hk9 1
          obtain ⟨h1, h2⟩ := h0.bad
          have HP1 := Aside0.mk h1
          have HB1 := Aside0.mk ((below_grownBy hb1.out (some p)).trans h2)
          clear h0 hk9 h1 h2 hb1
          go_wp2_with fail
          go_ret
          exact ⟨rfl, HP1, HB1⟩
        · have d3 : ((k.kind : Int) != 2) = true := by rw [bne_iff_ne]; omega
          clear hok2 hk1
          go_enter Tryd.func54, Tryd.ntmps54
          go_wp2_with fail
          go_ret
          exact ⟨rfl, HP, HB⟩
  | true =>
    obtain ⟨l, b⟩ := st
    obtain ⟨rfl, hne⟩ := num_some hok
    cases l with
    | nil => exact absurd rfl hne
    | cons k l =>
      have hok2 : (k.kind == 2 && (numF k.text).2) = true := hok
      rw [Bool.and_eq_true, beq_iff_eq] at hok2
      obtain ⟨hk1, hng⟩ := hok2
      obtain ⟨x, y, hxy⟩ : ∃ x y, numF k.text = (x, y) := ⟨_, _, rfl⟩
      rw [hxy] at hng
      simp only at hng
      subst hng
      have hv0 : v = x := by rw [← hv.out, numV, if_pos hok]; show (numF k.text).1 = x; rw [hxy]
      have hs0 : s2 = (l, false) := by rw [← hs.out, numM, if_pos hok]; rfl
      subst hv0 hs0
      obtain ⟨g, o, c, hk, _, hts, hlc, hcm, a1, a2, a3⟩ := H.out.head
      have c0 : w.cell? ⟨p, 0, none⟩ = some (.slice (some ⟨g, o, none⟩) (l.length + 1) c) := blk_cell hk 0
      have c1 : w.cell? ⟨p, 1, none⟩ = some (.bool false) := blk_cell hk 1
      obtain ⟨n, hn⟩ : ∃ n, l.length + 1 = n := ⟨_, rfl⟩
      have hn0 : 0 < n := by omega
      have hn1 : (0 : Int) < (n : Int) := by omega
      have d1 : ((n : Int) == 0) = false := by rw [beq_eq_false_iff_ne]; omega
      have d2 : (n == 0) = false := by rw [beq_eq_false_iff_ne]; omega
      rw [hn] at c0
      have d3 : ((k.kind : Int) != 2) = false := by rw [hk1]; rfl
      have HNG := Aside0.mk hxy
      have HN := Aside0.mk hn
      clear hok hk1 hxy hk hn a3 hv hs hne
      go_enter Tryd.func54, Tryd.ntmps54
      go_wp2_with fail
      refine (number_any k.text w (by omega) v true HNG).mono ?_
      rintro e w1 ⟨rfl, hb1⟩
      have H1 := Aside0.mk (H.out.below hb1.out)
      have HB1 := Aside0.mk (below_grownBy hb1.out (some p))
      clear hb1 c0 c1 a1 a2 hlc hcm d1 d2 d3 hn0 hn1
      obtain ⟨g1, o1, c1, hk, hr, _, hlc, hcm, a1, a2, a3⟩ := H1.out.head
      have HK := Aside0.mk hk
      have HR := Aside0.mk hr
      have c0 : w1.cell? ⟨p, 0, none⟩ = some (.slice (some ⟨g1, o1, none⟩) (l.length + 1) c1) := blk_cell hk 0
      obtain ⟨i1, hi1, _, hsz1, _⟩ := info_parts infoTok
      have hcut := cut_from (P := Tryd.prog) 49 59 .i64 Tryd.underlying49 hi1 3 hsz1 (some ⟨g1, o1, none⟩) (l.length + 1) c1 1 (by omega) (by omega)
      obtain ⟨A7, hA7⟩ : ∃ A, (if c1 = 1 then some (⟨g1, o1, none⟩ : Addr) else (some (⟨g1, o1, none⟩ : Addr)).map (·.add (1 * 3))) = A := ⟨_, rfl⟩
      obtain ⟨n7, hn7⟩ : ∃ n7, l.length + 1 - 1 = n7 := ⟨_, rfl⟩
      obtain ⟨c7, hc7⟩ : ∃ c7, c1 - 1 = c7 := ⟨_, rfl⟩
      have HV := Aside0.mk (show _ ∧ ((k :: l, false) : St).1.length - 1 = n7 ∧ _ from ⟨hA7, hn7, hc7⟩)
      rw [show ((1 : Int)).toNat = 1 from rfl, hA7, hn7, hc7] at hcut
      rw [HN.out] at hcut c0
      have z0 := blk_frozen hk 0
      clear hk hr hA7 hn7 hc7 hi1 hsz1 hlc a1 a2 a3
      go_wp2_with fail
      go_ret
      obtain ⟨h1, h2⟩ := H1.out.next HK.out HR.out (by simp) A7 n7 c7 HV.out
      exact ⟨rfl, ⟨h1⟩, ⟨HB1.out.trans h2⟩⟩
end Go.Proofs.YtbfhglaaombglaaDoor

/- The parser: kind, field. -/
namespace Go.Proofs.YtbfhglaaombglaaDoor
set_option linter.unusedVariables false
set_option linter.unusedSimpArgs false
open Go.RowKit Go.Proofs.YtbfhglaaombglaaDoorW.PrintWords

theorem results_cell {fn : Func} {p : Tmp} {ty : TypeId} (h : fn.results = #[.cell p ty]) (tmps : Array Value) (P : Program) (w : World) :
    (results fn tmps).run P w = ((asAddr (tmps.getD p undef)).run P w).andThen fun a w₁ => (loadVar ty a).run P w₁ := by
  simp only [results, h]
  simp [Sem.run_bind, Result.andThen]
def NoW (st : St) (j : Nat) : Prop := (1 ≤ j → takesB w_int32 st = false) ∧ (2 ≤ j → takesB w_int64 st = false) ∧ (3 ≤ j → takesB w_bool st = false) ∧ (4 ≤ j → takesB w_text st = false) ∧ (5 ≤ j → takesB w_bytes st = false)
theorem takes_no (w0 w : World) (p : Nat) (st : St) (H : Aside0 (PS w0 w p st)) (t : ByteArray) (hv : Aside0 (takesB t st = false)) :
    Calls Tryd.prog 34 #[.pointer (some ⟨p, 0, none⟩), .string t] w fun e w' => e = .returned (.bool false) ∧ w = w' := by
  go_enter Tryd.func34, Tryd.ntmps34
  go_wp2_with fail
  refine (looks_any w0 w p st H t false hv).mono ?_
  rintro e w' ⟨rfl, rfl⟩
  go_wp2_with fail
  go_ret
  exact ⟨rfl, rfl⟩
theorem takes_yes (w0 w : World) (p : Nat) (st : St) (H : Aside0 (PS w0 w p st)) (t : ByteArray) (hv : Aside0 (takesB t st = true)) (s2 : St) (hs : Aside0 ((st.1.tail, st.2) = s2)) :
    Calls Tryd.prog 34 #[.pointer (some ⟨p, 0, none⟩), .string t] w fun e w' => e = .returned (.bool true) ∧ Aside0 (PS w0 w' p s2) ∧ Aside0 (w.grownBy w' (some p)) := by
  refine (takes_any w0 w p st H t true hv).mono ?_
  rintro e w' ⟨rfl, h1, h2⟩
  rw [takesM, if_pos hv.out, hs.out] at h1
  exact ⟨rfl, h1, h2⟩
theorem scal_1 (st : St) (h : takesB w_int32 st = true) : scal st = 1 := by
  unfold scal
  rw [if_pos h]
theorem scal_2 (st : St) (h0 : takesB w_int32 st = false) (h : takesB w_int64 st = true) : scal st = 2 := by
  unfold scal
  rw [if_neg (by rw [h0]; decide), if_pos h]
theorem scal_3 (st : St) (h0 : takesB w_int32 st = false) (h1 : takesB w_int64 st = false) (h : takesB w_bool st = true) : scal st = 3 := by
  unfold scal
  rw [if_neg (by rw [h0]; decide), if_neg (by rw [h1]; decide), if_pos h]
theorem scal_4 (st : St) (h0 : takesB w_int32 st = false) (h1 : takesB w_int64 st = false) (h2 : takesB w_bool st = false) (h : takesB w_text st = true) : scal st = 4 := by
  unfold scal
  rw [if_neg (by rw [h0]; decide), if_neg (by rw [h1]; decide), if_neg (by rw [h2]; decide), if_pos h]
theorem scal_5 (st : St) (h0 : takesB w_int32 st = false) (h1 : takesB w_int64 st = false) (h2 : takesB w_bool st = false) (h3 : takesB w_text st = false) (h : takesB w_bytes st = true) : scal st = 5 := by
  unfold scal
  rw [if_neg (by rw [h0]; decide), if_neg (by rw [h1]; decide), if_neg (by rw [h2]; decide), if_neg (by rw [h3]; decide), if_pos h]
theorem scal_0 (st : St) (h0 : takesB w_int32 st = false) (h1 : takesB w_int64 st = false) (h2 : takesB w_bool st = false) (h3 : takesB w_text st = false) (h4 : takesB w_bytes st = false) : scal st = 0 := by
  unfold scal
  rw [if_neg (by rw [h0]; decide), if_neg (by rw [h1]; decide), if_neg (by rw [h2]; decide), if_neg (by rw [h3]; decide), if_neg (by rw [h4]; decide)]
set_option maxRecDepth 100000 in
set_option maxHeartbeats 2000000 in
theorem kind_any (w0 w : World) (p : Nat) (st : St) (H : Aside0 (PS w0 w p st)) (k : Nat) (hk : Aside0 (kk7 (scal st) = k)) (n : ByteArray) (hn : Aside0 (kindN st = n)) (s2 : St) (hs : Aside0 (kindM st = s2)) :
    Calls Tryd.prog 66 #[.pointer (some ⟨p, 0, none⟩)] w fun e w' => e = .returned (.agg #[.int .i64 (k : Int), .string n]) ∧ Aside0 (PS w0 w' p s2) ∧ Aside0 (w.grownBy w' (some p)) := by
  have HA := Aside0.mk (H.out.below ((Below.refl w.heap.size w).alloc (Nat.le_refl _) (.cells #[.int .i64 0, .string ⟨#[]⟩] 41)))
  have HG := Aside0.mk (World.grownBy_alloc w (.cells #[.int .i64 0, .string ⟨#[]⟩] 41) (some p))
  have HK := Aside0.mk (heap_alloc_new w (.cells #[.int .i64 0, .string ⟨#[]⟩] 41))
  have HGP : Aside0 (w.heap.size ≠ p) := ⟨fun e => by have := H.out.lt; omega⟩
  go_enter Tryd.func66, Tryd.ntmps66
  go_wp2_with fail
  change Code.wp _ _ _ _ (w.alloc (.cells #[.int .i64 0, .string ⟨#[]⟩] 41))
  obtain ⟨gA, hgA⟩ : ∃ g, w.heap.size = g := ⟨_, rfl⟩
  obtain ⟨wA, hwA⟩ : ∃ W, w.alloc (.cells #[.int .i64 0, .string ⟨#[]⟩] 41) = W := ⟨_, rfl⟩
  rw [hwA] at HA HG HK ⊢
  rw [hgA] at HK HGP
  have HGA := Aside0.mk hgA
  have HGW : Aside0 (w0.heap.size ≤ gA) := ⟨by rw [← hgA]; exact H.out.bel.size⟩
  simp only [hgA]
  clear hwA hgA
  go_loopw [6] (fun u wr => ∃ j : Nat, u = .int .i64 (j : Int) ∧ j ≤ 5 ∧ Aside0 (NoW st j) ∧ wr = wA) (fun u _ => 5 - (intOf u).toNat)
  case atStart => exact ⟨0, rfl, by omega, ⟨⟨fun h => absurd h (by omega), fun h => absurd h (by omega), fun h => absurd h (by omega), fun h => absurd h (by omega), fun h => absurd h (by omega)⟩⟩, rfl⟩
  case round =>
    obtain ⟨j, rfl, hj, HX, rfl⟩ := hrel
    have hc : j = 0 ∨ j = 1 ∨ j = 2 ∨ j = 3 ∨ j = 4 ∨ j = 5 := by omega
    rcases hc with rfl | rfl | rfl | rfl | rfl | rfl
    · have hix : ∀ W, (Instr.index 36 (.agg #[.string ⟨#[105, 110, 116, 51, 50]⟩, .string ⟨#[105, 110, 116, 54, 52]⟩, .string ⟨#[98, 111, 111, 108]⟩, .string ⟨#[116, 101, 120, 116]⟩, .string ⟨#[98, 121, 116, 101, 115]⟩]) (.int .i64 0)).run Tryd.prog W = .ok (.string ⟨#[105, 110, 116, 51, 50]⟩) W := fun _ => by kernel_rfl
      cases hv : takesB w_int32 st with
      | true =>
        have HV := Aside0.mk hv
        have hsc : scal st = 1 := scal_1 st hv
        have HS2 : Aside0 ((st.1.tail, st.2) = s2) := ⟨by rw [← hs.out, kindM, if_neg (by rw [hsc]; decide)]⟩
        have hk0 : k = 1 := by rw [← hk.out, hsc]; rfl
        have hn0 : n = ⟨#[]⟩ := by rw [← hn.out, kindN, if_neg (by rw [hsc]; decide)]; rfl
        subst hk0 hn0
        clear hv hsc
        go_wp2_with fail
        refine (takes_yes w0 wr p st HA w_int32 HV s2 HS2).mono ?_
        rintro e w2 ⟨rfl, HP2, HB2⟩
        have hk9 := grown_block HB2.out HK.out HGP.out
        have z0 : w2.cell? ⟨gA, 0, none⟩ = some (.int .i64 0) := blk_cell hk9 0
        have z1 : w2.cell? ⟨gA, 1, none⟩ = some (.string ⟨#[]⟩) := blk_cell hk9 1
        have hfz := fun i => blk_frozen hk9 i
        have HK9 := Aside0.mk hk9
        clear hk9
        go_wp2_with fail
        change bodyPost _ _ _ _ _ ((w2.setCell ⟨gA, 0, none⟩ (.int .i64 1)).setCell ⟨gA, 1, none⟩ (.string ⟨#[]⟩))
        have hk8 := blk_set (blk_set HK9.out 0 (.int .i64 1)) 1 (.string ⟨#[]⟩)
        simp only [List.setIfInBounds_toArray, List.set_cons_zero, List.set_cons_succ] at hk8
        have hb8 : Below w.heap.size w2 ((w2.setCell ⟨gA, 0, none⟩ (.int .i64 1)).setCell ⟨gA, 1, none⟩ (.string ⟨#[]⟩)) := ((Below.refl _ _).setCell (p := ⟨gA, 0, none⟩) (Nat.le_of_eq HGA.out) _).setCell (p := ⟨gA, 1, none⟩) (Nat.le_of_eq HGA.out) _
        have hp8 := HP2.out.far (g := gA) HGP.out HGW.out 0 (.int .i64 1)
        have hp9 := hp8.far (g := gA) HGP.out HGW.out 1 (.string ⟨#[]⟩)
        have hg9 : w.grownBy ((w2.setCell ⟨gA, 0, none⟩ (.int .i64 1)).setCell ⟨gA, 1, none⟩ (.string ⟨#[]⟩)) (some p) := grown_far (grown_far (HG.out.trans HB2.out) (Nat.le_of_eq HGA.out) 0 _) (Nat.le_of_eq HGA.out) 1 _
        obtain ⟨w8, hw8⟩ : ∃ w8, (w2.setCell ⟨gA, 0, none⟩ (.int .i64 1)).setCell ⟨gA, 1, none⟩ (.string ⟨#[]⟩) = w8 := ⟨_, rfl⟩
        rw [hw8] at hk8 hp9 hg9 ⊢
        clear hw8 z0 z1 hfz hb8 hp8
        have z0 : w8.cell? ⟨gA, 0, none⟩ = some (.int .i64 1) := blk_cell hk8 0
        have z1 : w8.cell? ⟨gA, 1, none⟩ = some (.string ⟨#[]⟩) := blk_cell hk8 1
        refine bodyPost_ret (v := .agg #[.int .i64 1, .string ⟨#[]⟩]) ?_ rfl ?_
        · rw [results_cell rfl]
          go_simp
          first | rfl | done
        · exact ⟨rfl, ⟨hp9⟩, ⟨hg9⟩⟩
      | false =>
        have HV := Aside0.mk hv
        clear hv
        go_wp2_with fail
        refine (takes_no w0 wr p st HA w_int32 HV).mono ?_
        rintro e w2 ⟨rfl, rfl⟩
        go_wp2_with fail
        go_roundw
        case rel => exact ⟨1, rfl, by omega, ⟨⟨fun _ => HV.out, fun h => absurd h (by omega), fun h => absurd h (by omega), fun h => absurd h (by omega), fun h => absurd h (by omega)⟩⟩, by trivial⟩
        case measure => simp [intOf]
    · have hix : ∀ W, (Instr.index 36 (.agg #[.string ⟨#[105, 110, 116, 51, 50]⟩, .string ⟨#[105, 110, 116, 54, 52]⟩, .string ⟨#[98, 111, 111, 108]⟩, .string ⟨#[116, 101, 120, 116]⟩, .string ⟨#[98, 121, 116, 101, 115]⟩]) (.int .i64 1)).run Tryd.prog W = .ok (.string ⟨#[105, 110, 116, 54, 52]⟩) W := fun _ => by kernel_rfl
      cases hv : takesB w_int64 st with
      | true =>
        have HV := Aside0.mk hv
        have hsc : scal st = 2 := scal_2 st (HX.out.1 (by omega)) hv
        have HS2 : Aside0 ((st.1.tail, st.2) = s2) := ⟨by rw [← hs.out, kindM, if_neg (by rw [hsc]; decide)]⟩
        have hk0 : k = 2 := by rw [← hk.out, hsc]; rfl
        have hn0 : n = ⟨#[]⟩ := by rw [← hn.out, kindN, if_neg (by rw [hsc]; decide)]; rfl
        subst hk0 hn0
        clear hv hsc
        go_wp2_with fail
        refine (takes_yes w0 wr p st HA w_int64 HV s2 HS2).mono ?_
        rintro e w2 ⟨rfl, HP2, HB2⟩
        have hk9 := grown_block HB2.out HK.out HGP.out
        have z0 : w2.cell? ⟨gA, 0, none⟩ = some (.int .i64 0) := blk_cell hk9 0
        have z1 : w2.cell? ⟨gA, 1, none⟩ = some (.string ⟨#[]⟩) := blk_cell hk9 1
        have hfz := fun i => blk_frozen hk9 i
        have HK9 := Aside0.mk hk9
        clear hk9
        go_wp2_with fail
        change bodyPost _ _ _ _ _ ((w2.setCell ⟨gA, 0, none⟩ (.int .i64 2)).setCell ⟨gA, 1, none⟩ (.string ⟨#[]⟩))
        have hk8 := blk_set (blk_set HK9.out 0 (.int .i64 2)) 1 (.string ⟨#[]⟩)
        simp only [List.setIfInBounds_toArray, List.set_cons_zero, List.set_cons_succ] at hk8
        have hb8 : Below w.heap.size w2 ((w2.setCell ⟨gA, 0, none⟩ (.int .i64 2)).setCell ⟨gA, 1, none⟩ (.string ⟨#[]⟩)) := ((Below.refl _ _).setCell (p := ⟨gA, 0, none⟩) (Nat.le_of_eq HGA.out) _).setCell (p := ⟨gA, 1, none⟩) (Nat.le_of_eq HGA.out) _
        have hp8 := HP2.out.far (g := gA) HGP.out HGW.out 0 (.int .i64 2)
        have hp9 := hp8.far (g := gA) HGP.out HGW.out 1 (.string ⟨#[]⟩)
        have hg9 : w.grownBy ((w2.setCell ⟨gA, 0, none⟩ (.int .i64 2)).setCell ⟨gA, 1, none⟩ (.string ⟨#[]⟩)) (some p) := grown_far (grown_far (HG.out.trans HB2.out) (Nat.le_of_eq HGA.out) 0 _) (Nat.le_of_eq HGA.out) 1 _
        obtain ⟨w8, hw8⟩ : ∃ w8, (w2.setCell ⟨gA, 0, none⟩ (.int .i64 2)).setCell ⟨gA, 1, none⟩ (.string ⟨#[]⟩) = w8 := ⟨_, rfl⟩
        rw [hw8] at hk8 hp9 hg9 ⊢
        clear hw8 z0 z1 hfz hb8 hp8
        have z0 : w8.cell? ⟨gA, 0, none⟩ = some (.int .i64 2) := blk_cell hk8 0
        have z1 : w8.cell? ⟨gA, 1, none⟩ = some (.string ⟨#[]⟩) := blk_cell hk8 1
        refine bodyPost_ret (v := .agg #[.int .i64 2, .string ⟨#[]⟩]) ?_ rfl ?_
        · rw [results_cell rfl]
          go_simp
          first | rfl | done
        · exact ⟨rfl, ⟨hp9⟩, ⟨hg9⟩⟩
      | false =>
        have HV := Aside0.mk hv
        clear hv
        go_wp2_with fail
        refine (takes_no w0 wr p st HA w_int64 HV).mono ?_
        rintro e w2 ⟨rfl, rfl⟩
        go_wp2_with fail
        go_roundw
        case rel => exact ⟨2, rfl, by omega, ⟨⟨fun _ => HX.out.1 (by omega), fun _ => HV.out, fun h => absurd h (by omega), fun h => absurd h (by omega), fun h => absurd h (by omega)⟩⟩, by trivial⟩
        case measure => simp [intOf]
    · have hix : ∀ W, (Instr.index 36 (.agg #[.string ⟨#[105, 110, 116, 51, 50]⟩, .string ⟨#[105, 110, 116, 54, 52]⟩, .string ⟨#[98, 111, 111, 108]⟩, .string ⟨#[116, 101, 120, 116]⟩, .string ⟨#[98, 121, 116, 101, 115]⟩]) (.int .i64 2)).run Tryd.prog W = .ok (.string ⟨#[98, 111, 111, 108]⟩) W := fun _ => by kernel_rfl
      cases hv : takesB w_bool st with
      | true =>
        have HV := Aside0.mk hv
        have hsc : scal st = 3 := scal_3 st (HX.out.1 (by omega)) (HX.out.2.1 (by omega)) hv
        have HS2 : Aside0 ((st.1.tail, st.2) = s2) := ⟨by rw [← hs.out, kindM, if_neg (by rw [hsc]; decide)]⟩
        have hk0 : k = 3 := by rw [← hk.out, hsc]; rfl
        have hn0 : n = ⟨#[]⟩ := by rw [← hn.out, kindN, if_neg (by rw [hsc]; decide)]; rfl
        subst hk0 hn0
        clear hv hsc
        go_wp2_with fail
        refine (takes_yes w0 wr p st HA w_bool HV s2 HS2).mono ?_
        rintro e w2 ⟨rfl, HP2, HB2⟩
        have hk9 := grown_block HB2.out HK.out HGP.out
        have z0 : w2.cell? ⟨gA, 0, none⟩ = some (.int .i64 0) := blk_cell hk9 0
        have z1 : w2.cell? ⟨gA, 1, none⟩ = some (.string ⟨#[]⟩) := blk_cell hk9 1
        have hfz := fun i => blk_frozen hk9 i
        have HK9 := Aside0.mk hk9
        clear hk9
        go_wp2_with fail
        change bodyPost _ _ _ _ _ ((w2.setCell ⟨gA, 0, none⟩ (.int .i64 3)).setCell ⟨gA, 1, none⟩ (.string ⟨#[]⟩))
        have hk8 := blk_set (blk_set HK9.out 0 (.int .i64 3)) 1 (.string ⟨#[]⟩)
        simp only [List.setIfInBounds_toArray, List.set_cons_zero, List.set_cons_succ] at hk8
        have hb8 : Below w.heap.size w2 ((w2.setCell ⟨gA, 0, none⟩ (.int .i64 3)).setCell ⟨gA, 1, none⟩ (.string ⟨#[]⟩)) := ((Below.refl _ _).setCell (p := ⟨gA, 0, none⟩) (Nat.le_of_eq HGA.out) _).setCell (p := ⟨gA, 1, none⟩) (Nat.le_of_eq HGA.out) _
        have hp8 := HP2.out.far (g := gA) HGP.out HGW.out 0 (.int .i64 3)
        have hp9 := hp8.far (g := gA) HGP.out HGW.out 1 (.string ⟨#[]⟩)
        have hg9 : w.grownBy ((w2.setCell ⟨gA, 0, none⟩ (.int .i64 3)).setCell ⟨gA, 1, none⟩ (.string ⟨#[]⟩)) (some p) := grown_far (grown_far (HG.out.trans HB2.out) (Nat.le_of_eq HGA.out) 0 _) (Nat.le_of_eq HGA.out) 1 _
        obtain ⟨w8, hw8⟩ : ∃ w8, (w2.setCell ⟨gA, 0, none⟩ (.int .i64 3)).setCell ⟨gA, 1, none⟩ (.string ⟨#[]⟩) = w8 := ⟨_, rfl⟩
        rw [hw8] at hk8 hp9 hg9 ⊢
        clear hw8 z0 z1 hfz hb8 hp8
        have z0 : w8.cell? ⟨gA, 0, none⟩ = some (.int .i64 3) := blk_cell hk8 0
        have z1 : w8.cell? ⟨gA, 1, none⟩ = some (.string ⟨#[]⟩) := blk_cell hk8 1
        refine bodyPost_ret (v := .agg #[.int .i64 3, .string ⟨#[]⟩]) ?_ rfl ?_
        · rw [results_cell rfl]
          go_simp
          first | rfl | done
        · exact ⟨rfl, ⟨hp9⟩, ⟨hg9⟩⟩
      | false =>
        have HV := Aside0.mk hv
        clear hv
        go_wp2_with fail
        refine (takes_no w0 wr p st HA w_bool HV).mono ?_
        rintro e w2 ⟨rfl, rfl⟩
        go_wp2_with fail
        go_roundw
        case rel => exact ⟨3, rfl, by omega, ⟨⟨fun _ => HX.out.1 (by omega), fun _ => HX.out.2.1 (by omega), fun _ => HV.out, fun h => absurd h (by omega), fun h => absurd h (by omega)⟩⟩, by trivial⟩
        case measure => simp [intOf]
    · have hix : ∀ W, (Instr.index 36 (.agg #[.string ⟨#[105, 110, 116, 51, 50]⟩, .string ⟨#[105, 110, 116, 54, 52]⟩, .string ⟨#[98, 111, 111, 108]⟩, .string ⟨#[116, 101, 120, 116]⟩, .string ⟨#[98, 121, 116, 101, 115]⟩]) (.int .i64 3)).run Tryd.prog W = .ok (.string ⟨#[116, 101, 120, 116]⟩) W := fun _ => by kernel_rfl
      cases hv : takesB w_text st with
      | true =>
        have HV := Aside0.mk hv
        have hsc : scal st = 4 := scal_4 st (HX.out.1 (by omega)) (HX.out.2.1 (by omega)) (HX.out.2.2.1 (by omega)) hv
        have HS2 : Aside0 ((st.1.tail, st.2) = s2) := ⟨by rw [← hs.out, kindM, if_neg (by rw [hsc]; decide)]⟩
        have hk0 : k = 4 := by rw [← hk.out, hsc]; rfl
        have hn0 : n = ⟨#[]⟩ := by rw [← hn.out, kindN, if_neg (by rw [hsc]; decide)]; rfl
        subst hk0 hn0
        clear hv hsc
        go_wp2_with fail
        refine (takes_yes w0 wr p st HA w_text HV s2 HS2).mono ?_
        rintro e w2 ⟨rfl, HP2, HB2⟩
        have hk9 := grown_block HB2.out HK.out HGP.out
        have z0 : w2.cell? ⟨gA, 0, none⟩ = some (.int .i64 0) := blk_cell hk9 0
        have z1 : w2.cell? ⟨gA, 1, none⟩ = some (.string ⟨#[]⟩) := blk_cell hk9 1
        have hfz := fun i => blk_frozen hk9 i
        have HK9 := Aside0.mk hk9
        clear hk9
        go_wp2_with fail
        change bodyPost _ _ _ _ _ ((w2.setCell ⟨gA, 0, none⟩ (.int .i64 4)).setCell ⟨gA, 1, none⟩ (.string ⟨#[]⟩))
        have hk8 := blk_set (blk_set HK9.out 0 (.int .i64 4)) 1 (.string ⟨#[]⟩)
        simp only [List.setIfInBounds_toArray, List.set_cons_zero, List.set_cons_succ] at hk8
        have hb8 : Below w.heap.size w2 ((w2.setCell ⟨gA, 0, none⟩ (.int .i64 4)).setCell ⟨gA, 1, none⟩ (.string ⟨#[]⟩)) := ((Below.refl _ _).setCell (p := ⟨gA, 0, none⟩) (Nat.le_of_eq HGA.out) _).setCell (p := ⟨gA, 1, none⟩) (Nat.le_of_eq HGA.out) _
        have hp8 := HP2.out.far (g := gA) HGP.out HGW.out 0 (.int .i64 4)
        have hp9 := hp8.far (g := gA) HGP.out HGW.out 1 (.string ⟨#[]⟩)
        have hg9 : w.grownBy ((w2.setCell ⟨gA, 0, none⟩ (.int .i64 4)).setCell ⟨gA, 1, none⟩ (.string ⟨#[]⟩)) (some p) := grown_far (grown_far (HG.out.trans HB2.out) (Nat.le_of_eq HGA.out) 0 _) (Nat.le_of_eq HGA.out) 1 _
        obtain ⟨w8, hw8⟩ : ∃ w8, (w2.setCell ⟨gA, 0, none⟩ (.int .i64 4)).setCell ⟨gA, 1, none⟩ (.string ⟨#[]⟩) = w8 := ⟨_, rfl⟩
        rw [hw8] at hk8 hp9 hg9 ⊢
        clear hw8 z0 z1 hfz hb8 hp8
        have z0 : w8.cell? ⟨gA, 0, none⟩ = some (.int .i64 4) := blk_cell hk8 0
        have z1 : w8.cell? ⟨gA, 1, none⟩ = some (.string ⟨#[]⟩) := blk_cell hk8 1
        refine bodyPost_ret (v := .agg #[.int .i64 4, .string ⟨#[]⟩]) ?_ rfl ?_
        · rw [results_cell rfl]
          go_simp
          first | rfl | done
        · exact ⟨rfl, ⟨hp9⟩, ⟨hg9⟩⟩
      | false =>
        have HV := Aside0.mk hv
        clear hv
        go_wp2_with fail
        refine (takes_no w0 wr p st HA w_text HV).mono ?_
        rintro e w2 ⟨rfl, rfl⟩
        go_wp2_with fail
        go_roundw
        case rel => exact ⟨4, rfl, by omega, ⟨⟨fun _ => HX.out.1 (by omega), fun _ => HX.out.2.1 (by omega), fun _ => HX.out.2.2.1 (by omega), fun _ => HV.out, fun h => absurd h (by omega)⟩⟩, by trivial⟩
        case measure => simp [intOf]
    · have hix : ∀ W, (Instr.index 36 (.agg #[.string ⟨#[105, 110, 116, 51, 50]⟩, .string ⟨#[105, 110, 116, 54, 52]⟩, .string ⟨#[98, 111, 111, 108]⟩, .string ⟨#[116, 101, 120, 116]⟩, .string ⟨#[98, 121, 116, 101, 115]⟩]) (.int .i64 4)).run Tryd.prog W = .ok (.string ⟨#[98, 121, 116, 101, 115]⟩) W := fun _ => by kernel_rfl
      cases hv : takesB w_bytes st with
      | true =>
        have HV := Aside0.mk hv
        have hsc : scal st = 5 := scal_5 st (HX.out.1 (by omega)) (HX.out.2.1 (by omega)) (HX.out.2.2.1 (by omega)) (HX.out.2.2.2.1 (by omega)) hv
        have HS2 : Aside0 ((st.1.tail, st.2) = s2) := ⟨by rw [← hs.out, kindM, if_neg (by rw [hsc]; decide)]⟩
        have hk0 : k = 5 := by rw [← hk.out, hsc]; rfl
        have hn0 : n = ⟨#[]⟩ := by rw [← hn.out, kindN, if_neg (by rw [hsc]; decide)]; rfl
        subst hk0 hn0
        clear hv hsc
        go_wp2_with fail
        refine (takes_yes w0 wr p st HA w_bytes HV s2 HS2).mono ?_
        rintro e w2 ⟨rfl, HP2, HB2⟩
        have hk9 := grown_block HB2.out HK.out HGP.out
        have z0 : w2.cell? ⟨gA, 0, none⟩ = some (.int .i64 0) := blk_cell hk9 0
        have z1 : w2.cell? ⟨gA, 1, none⟩ = some (.string ⟨#[]⟩) := blk_cell hk9 1
        have hfz := fun i => blk_frozen hk9 i
        have HK9 := Aside0.mk hk9
        clear hk9
        go_wp2_with fail
        change bodyPost _ _ _ _ _ ((w2.setCell ⟨gA, 0, none⟩ (.int .i64 5)).setCell ⟨gA, 1, none⟩ (.string ⟨#[]⟩))
        have hk8 := blk_set (blk_set HK9.out 0 (.int .i64 5)) 1 (.string ⟨#[]⟩)
        simp only [List.setIfInBounds_toArray, List.set_cons_zero, List.set_cons_succ] at hk8
        have hb8 : Below w.heap.size w2 ((w2.setCell ⟨gA, 0, none⟩ (.int .i64 5)).setCell ⟨gA, 1, none⟩ (.string ⟨#[]⟩)) := ((Below.refl _ _).setCell (p := ⟨gA, 0, none⟩) (Nat.le_of_eq HGA.out) _).setCell (p := ⟨gA, 1, none⟩) (Nat.le_of_eq HGA.out) _
        have hp8 := HP2.out.far (g := gA) HGP.out HGW.out 0 (.int .i64 5)
        have hp9 := hp8.far (g := gA) HGP.out HGW.out 1 (.string ⟨#[]⟩)
        have hg9 : w.grownBy ((w2.setCell ⟨gA, 0, none⟩ (.int .i64 5)).setCell ⟨gA, 1, none⟩ (.string ⟨#[]⟩)) (some p) := grown_far (grown_far (HG.out.trans HB2.out) (Nat.le_of_eq HGA.out) 0 _) (Nat.le_of_eq HGA.out) 1 _
        obtain ⟨w8, hw8⟩ : ∃ w8, (w2.setCell ⟨gA, 0, none⟩ (.int .i64 5)).setCell ⟨gA, 1, none⟩ (.string ⟨#[]⟩) = w8 := ⟨_, rfl⟩
        rw [hw8] at hk8 hp9 hg9 ⊢
        clear hw8 z0 z1 hfz hb8 hp8
        have z0 : w8.cell? ⟨gA, 0, none⟩ = some (.int .i64 5) := blk_cell hk8 0
        have z1 : w8.cell? ⟨gA, 1, none⟩ = some (.string ⟨#[]⟩) := blk_cell hk8 1
        refine bodyPost_ret (v := .agg #[.int .i64 5, .string ⟨#[]⟩]) ?_ rfl ?_
        · rw [results_cell rfl]
          go_simp
          first | rfl | done
        · exact ⟨rfl, ⟨hp9⟩, ⟨hg9⟩⟩
      | false =>
        have HV := Aside0.mk hv
        clear hv
        go_wp2_with fail
        refine (takes_no w0 wr p st HA w_bytes HV).mono ?_
        rintro e w2 ⟨rfl, rfl⟩
        go_wp2_with fail
        go_roundw
        case rel => exact ⟨5, rfl, by omega, ⟨⟨fun _ => HX.out.1 (by omega), fun _ => HX.out.2.1 (by omega), fun _ => HX.out.2.2.1 (by omega), fun _ => HX.out.2.2.2.1 (by omega), fun _ => HV.out⟩⟩, by trivial⟩
        case measure => simp [intOf]
    · have hsc : scal st = 0 := scal_0 st (HX.out.1 (by omega)) (HX.out.2.1 (by omega)) (HX.out.2.2.1 (by omega)) (HX.out.2.2.2.1 (by omega)) (HX.out.2.2.2.2 (by omega))
      have HS2 : Aside0 (nameM st = s2) := ⟨by rw [← hs.out, kindM, if_pos hsc]⟩
      have hk0 : k = 7 := by rw [← hk.out, hsc]; rfl
      have HN : Aside0 (nameV st = n) := ⟨by rw [← hn.out, kindN, if_pos hsc]⟩
      subst hk0
      clear hsc
      go_wp2_with fail
      refine (pname_any w0 wr p st HA n HN s2 HS2).mono ?_
      rintro e w2 ⟨rfl, HP2, HB2⟩
      have hk9 := grown_block HB2.out HK.out HGP.out
      have z0 : w2.cell? ⟨gA, 0, none⟩ = some (.int .i64 0) := blk_cell hk9 0
      have z1 : w2.cell? ⟨gA, 1, none⟩ = some (.string ⟨#[]⟩) := blk_cell hk9 1
      have hfz := fun i => blk_frozen hk9 i
      have HK9 := Aside0.mk hk9
      clear hk9
      go_wp2_with fail
      change bodyPost _ _ _ _ _ ((w2.setCell ⟨gA, 0, none⟩ (.int .i64 7)).setCell ⟨gA, 1, none⟩ (.string n))
      have hk8 := blk_set (blk_set HK9.out 0 (.int .i64 7)) 1 (.string n)
      simp only [List.setIfInBounds_toArray, List.set_cons_zero, List.set_cons_succ] at hk8
      have hb8 : Below w.heap.size w2 ((w2.setCell ⟨gA, 0, none⟩ (.int .i64 7)).setCell ⟨gA, 1, none⟩ (.string n)) := ((Below.refl _ _).setCell (p := ⟨gA, 0, none⟩) (Nat.le_of_eq HGA.out) _).setCell (p := ⟨gA, 1, none⟩) (Nat.le_of_eq HGA.out) _
      have hp8 := HP2.out.far (g := gA) HGP.out HGW.out 0 (.int .i64 7)
      have hp9 := hp8.far (g := gA) HGP.out HGW.out 1 (.string n)
      have hg9 : w.grownBy ((w2.setCell ⟨gA, 0, none⟩ (.int .i64 7)).setCell ⟨gA, 1, none⟩ (.string n)) (some p) := grown_far (grown_far (HG.out.trans HB2.out) (Nat.le_of_eq HGA.out) 0 _) (Nat.le_of_eq HGA.out) 1 _
      obtain ⟨w8, hw8⟩ : ∃ w8, (w2.setCell ⟨gA, 0, none⟩ (.int .i64 7)).setCell ⟨gA, 1, none⟩ (.string n) = w8 := ⟨_, rfl⟩
      rw [hw8] at hk8 hp9 hg9 ⊢
      clear hw8 z0 z1 hfz hb8 hp8
      have z0 : w8.cell? ⟨gA, 0, none⟩ = some (.int .i64 7) := blk_cell hk8 0
      have z1 : w8.cell? ⟨gA, 1, none⟩ = some (.string n) := blk_cell hk8 1
      refine bodyPost_ret (v := .agg #[.int .i64 7, .string n]) ?_ rfl ?_
      · rw [results_cell rfl]
        go_simp
        first | rfl | done
      · exact ⟨rfl, ⟨hp9⟩, ⟨hg9⟩⟩
end Go.Proofs.YtbfhglaaombglaaDoor

/- The parser: field. -/
namespace Go.Proofs.YtbfhglaaombglaaDoor
set_option linter.unusedVariables false
set_option linter.unusedSimpArgs false
open Go.RowKit Go.Proofs.YtbfhglaaombglaaDoorW.PrintWords

/-- A field's cells in the program: a name's kind is 7. -/
def fieldC (f : Fd) : List Value := [.string f.name, .int .i64 (f.tag : Int), .int .i64 (f.label : Int), .int .i64 (kk7 f.kind : Int), .string f.tname]
set_option maxRecDepth 100000 in
set_option maxHeartbeats 2000000 in
theorem field_any (w0 w : World) (p : Nat) (st : St) (H : Aside0 (PS w0 w p st)) :
    Calls Tryd.prog 55 #[.pointer (some ⟨p, 0, none⟩)] w fun e w' => e = .returned (.agg (fieldC (fieldV st)).toArray) ∧ Aside0 (PS w0 w' p (fieldM st)) ∧ Aside0 (w.grownBy w' (some p)) := by
  obtain ⟨s1, hs1⟩ : ∃ s, labM st = s := ⟨_, rfl⟩
  obtain ⟨s2, hs2⟩ : ∃ s, kindM s1 = s := ⟨_, rfl⟩
  obtain ⟨s3, hs3⟩ : ∃ s, nameM s2 = s := ⟨_, rfl⟩
  obtain ⟨s4, hs4⟩ : ∃ s, need c_eq s3 = s := ⟨_, rfl⟩
  obtain ⟨s5, hs5⟩ : ∃ s, numM s4 = s := ⟨_, rfl⟩
  obtain ⟨s6, hs6⟩ : ∃ s, need c_semi s5 = s := ⟨_, rfl⟩
  obtain ⟨lb, hlb⟩ : ∃ x, labV st = x := ⟨_, rfl⟩
  obtain ⟨kd, hkd⟩ : ∃ x, kk7 (scal s1) = x := ⟨_, rfl⟩
  obtain ⟨tn, htn⟩ : ∃ x, kindN s1 = x := ⟨_, rfl⟩
  obtain ⟨nm, hnm⟩ : ∃ x, nameV s2 = x := ⟨_, rfl⟩
  obtain ⟨tg, htg⟩ : ∃ x, numV s4 = x := ⟨_, rfl⟩
  have HFV : Aside0 (fieldC (fieldV st) = [.string nm, .int .i64 (tg : Int), .int .i64 (lb : Int), .int .i64 (kd : Int), .string tn]) := ⟨by rw [fieldC, fieldV]; simp only [hs1, hs2, hs3, hs4, hlb, htn, hnm, htg, hkd]⟩
  have HFM : Aside0 (fieldM st = s6) := ⟨by rw [fieldM, hs1, hs2, hs3, hs4, hs5, hs6]⟩
  have As1 := Aside0.mk hs1
  have As2 := Aside0.mk hs2
  have As3 := Aside0.mk hs3
  have As4 := Aside0.mk hs4
  have As5 := Aside0.mk hs5
  have As6 := Aside0.mk hs6
  have Alb := Aside0.mk hlb
  have Akd := Aside0.mk hkd
  have Atn := Aside0.mk htn
  have Anm := Aside0.mk hnm
  have Atg := Aside0.mk htg
  clear hs1 hs2 hs3 hs4 hs5 hs6 hlb hkd htn hnm htg
  have HLT := Aside0.mk H.out.lt
  go_enter Tryd.func55, Tryd.ntmps55
  go_upto_block 0 with fail
  change Code.wp _ _ _ _ ((w.alloc (.cells #[.string ⟨#[]⟩, .int .i64 0, .int .i64 0, .int .i64 0, .string ⟨#[]⟩] 43)).alloc (.cells #[.string ⟨#[]⟩, .int .i64 0, .int .i64 1, .int .i64 0, .string ⟨#[]⟩] 43))
  have hbel : Below w.heap.size w ((w.alloc (.cells #[.string ⟨#[]⟩, .int .i64 0, .int .i64 0, .int .i64 0, .string ⟨#[]⟩] 43)).alloc (.cells #[.string ⟨#[]⟩, .int .i64 0, .int .i64 1, .int .i64 0, .string ⟨#[]⟩] 43)) := (((Below.refl w.heap.size w).alloc (Nat.le_refl _) _).alloc (by simp) _)
  have hgR : (w.alloc (.cells #[.string ⟨#[]⟩, .int .i64 0, .int .i64 0, .int .i64 0, .string ⟨#[]⟩] 43)).heap[w.heap.size]? = some (.cells #[.string ⟨#[]⟩, .int .i64 0, .int .i64 0, .int .i64 0, .string ⟨#[]⟩] 43 (0, 0)) := by
    have h9 := heap_alloc_new w (.cells #[.string ⟨#[]⟩, .int .i64 0, .int .i64 0, .int .i64 0, .string ⟨#[]⟩] 43)
    exact h9
  replace hgR : ((w.alloc (.cells #[.string ⟨#[]⟩, .int .i64 0, .int .i64 0, .int .i64 0, .string ⟨#[]⟩] 43)).alloc (.cells #[.string ⟨#[]⟩, .int .i64 0, .int .i64 1, .int .i64 0, .string ⟨#[]⟩] 43)).heap[w.heap.size]? = some (.cells #[.string ⟨#[]⟩, .int .i64 0, .int .i64 0, .int .i64 0, .string ⟨#[]⟩] 43 (0, 0)) := by
    rw [((Below.refl (w.alloc (.cells #[.string ⟨#[]⟩, .int .i64 0, .int .i64 0, .int .i64 0, .string ⟨#[]⟩] 43)).heap.size (w.alloc (.cells #[.string ⟨#[]⟩, .int .i64 0, .int .i64 0, .int .i64 0, .string ⟨#[]⟩] 43))).alloc (Nat.le_refl _) _).block _ (by simp)]
    exact hgR
  have hgX : ((w.alloc (.cells #[.string ⟨#[]⟩, .int .i64 0, .int .i64 0, .int .i64 0, .string ⟨#[]⟩] 43)).alloc (.cells #[.string ⟨#[]⟩, .int .i64 0, .int .i64 1, .int .i64 0, .string ⟨#[]⟩] 43)).heap[w.heap.size + 1]? = some (.cells #[.string ⟨#[]⟩, .int .i64 0, .int .i64 1, .int .i64 0, .string ⟨#[]⟩] 43 (0, 0)) := by
    have h9 := heap_alloc_new (w.alloc (.cells #[.string ⟨#[]⟩, .int .i64 0, .int .i64 0, .int .i64 0, .string ⟨#[]⟩] 43)) (.cells #[.string ⟨#[]⟩, .int .i64 0, .int .i64 1, .int .i64 0, .string ⟨#[]⟩] 43)
    rw [show (w.alloc (.cells #[.string ⟨#[]⟩, .int .i64 0, .int .i64 0, .int .i64 0, .string ⟨#[]⟩] 43)).heap.size = w.heap.size + 1 by simp] at h9
    exact h9
  obtain ⟨gR, hggR⟩ : ∃ g, w.heap.size = g := ⟨_, rfl⟩
  obtain ⟨gX, hggX⟩ : ∃ g, w.heap.size + 1 = g := ⟨_, rfl⟩
  have hps := H.out.below hbel
  obtain ⟨w1, hw9⟩ : ∃ x, ((w.alloc (.cells #[.string ⟨#[]⟩, .int .i64 0, .int .i64 0, .int .i64 0, .string ⟨#[]⟩] 43)).alloc (.cells #[.string ⟨#[]⟩, .int .i64 0, .int .i64 1, .int .i64 0, .string ⟨#[]⟩] 43)) = x := ⟨_, rfl⟩
  rw [hggR, hw9] at hgR
  rw [hggX, hw9] at hgX
  rw [hw9] at hps hbel ⊢
  have HPw1 := Aside0.mk hps
  have HBw1 := Aside0.mk (below_grownBy hbel (some p))
  have HgRw1 := Aside0.mk hgR
  have HLgR : Aside0 (w.heap.size ≤ gR) := ⟨by omega⟩
  have HNgR : Aside0 (gR ≠ p) := ⟨by have := HLT.out; omega⟩
  have HWgR : Aside0 (w0.heap.size ≤ gR) := ⟨Nat.le_trans H.out.bel.size HLgR.out⟩
  have HgXw1 := Aside0.mk hgX
  have HLgX : Aside0 (w.heap.size ≤ gX) := ⟨by omega⟩
  have HNgX : Aside0 (gX ≠ p) := ⟨by have := HLT.out; omega⟩
  have HWgX : Aside0 (w0.heap.size ≤ gX) := ⟨Nat.le_trans H.out.bel.size HLgX.out⟩
  have HDgRgX : Aside0 (gR ≠ gX) := ⟨by omega⟩
  simp only [hggX]
  simp only [hggR]
  clear hw9 hps hbel hggR hggX hgR hgX
  go_cut [] (fun wd => Aside0 (PS w0 wd p s1 ∧ w.grownBy wd (some p) ∧ wd.heap[gR]? = some (.cells #[.string ⟨#[]⟩, .int .i64 0, .int .i64 0, .int .i64 0, .string ⟨#[]⟩] 43 (0, 0)) ∧ wd.heap[gX]? = some (.cells #[.string ⟨#[]⟩, .int .i64 0, .int .i64 (lb : Int), .int .i64 0, .string ⟨#[]⟩] 43 (0, 0))))
  case first =>
    cases ho : takesB w_optional st with
    | true =>
      have HO := Aside0.mk ho
      have hl2 : lb = 2 := by rw [← Alb.out, labV, if_pos ho]
      have HS : Aside0 ((st.1.tail, st.2) = s1) := ⟨by rw [← As1.out, labM, if_pos (by rw [ho]; rfl)]⟩
      subst hl2
      clear ho
      go_wp2_with fail
      refine (takes_yes w0 w1 p st HPw1 w_optional HO s1 HS).mono ?_
      rintro e w2 ⟨rfl, HPw2, hb9⟩
      have HBw2 := Aside0.mk (HBw1.out.trans hb9.out)
      have HgRw2 := Aside0.mk (grown_block hb9.out HgRw1.out HNgR.out)
      have HgXw2 := Aside0.mk (grown_block hb9.out HgXw1.out HNgX.out)
      clear hb9 HPw1 HBw1 HgRw1 HgXw1
      have zgX2 : w2.cell? ⟨gX, 2, none⟩ = some (.int .i64 1) := blk_cell HgXw2.out 2
      have hfzgX := fun i => blk_frozen HgXw2.out i
      go_wp2_with fail
      go_meet
      case rel => exact ⟨HPw2.out.far HNgX.out HWgX.out 2 _, grown_far HBw2.out HLgX.out 2 _, blk_far HgRw2.out (p := ⟨gX, 2, none⟩) HDgRgX.out _, by
        have h9 := blk_set HgXw2.out 2 (.int .i64 2)
        simp only [List.setIfInBounds_toArray, List.set_cons_zero, List.set_cons_succ] at h9
        exact h9⟩
    | false =>
      have HO := Aside0.mk ho
      cases hr : takesB w_repeated st with
      | true =>
        have HR := Aside0.mk hr
        have hl3 : lb = 3 := by rw [← Alb.out, labV, if_neg (by rw [ho]; decide), if_pos hr]
        have HS : Aside0 ((st.1.tail, st.2) = s1) := ⟨by rw [← As1.out, labM, if_pos (by rw [hr, Bool.or_true])]⟩
        subst hl3
        clear ho hr
        go_wp2_with fail
        refine (takes_no w0 w1 p st HPw1 w_optional HO).mono ?_
        rintro e w' ⟨rfl, rfl⟩
        go_wp2_with fail
        refine (takes_yes w0 w1 p st HPw1 w_repeated HR s1 HS).mono ?_
        rintro e w2 ⟨rfl, HPw2, hb9⟩
        have HBw2 := Aside0.mk (HBw1.out.trans hb9.out)
        have HgRw2 := Aside0.mk (grown_block hb9.out HgRw1.out HNgR.out)
        have HgXw2 := Aside0.mk (grown_block hb9.out HgXw1.out HNgX.out)
        clear hb9 HPw1 HBw1 HgRw1 HgXw1
        have zgX2 : w2.cell? ⟨gX, 2, none⟩ = some (.int .i64 1) := blk_cell HgXw2.out 2
        have hfzgX := fun i => blk_frozen HgXw2.out i
        go_wp2_with fail
        go_meet
        case rel => exact ⟨HPw2.out.far HNgX.out HWgX.out 2 _, grown_far HBw2.out HLgX.out 2 _, blk_far HgRw2.out (p := ⟨gX, 2, none⟩) HDgRgX.out _, by
          have h9 := blk_set HgXw2.out 2 (.int .i64 3)
          simp only [List.setIfInBounds_toArray, List.set_cons_zero, List.set_cons_succ] at h9
          exact h9⟩
      | false =>
        have HR := Aside0.mk hr
        have hl1 : lb = 1 := by rw [← Alb.out, labV, if_neg (by rw [ho]; decide), if_neg (by rw [hr]; decide)]
        have HS : Aside0 (st = s1) := ⟨by rw [← As1.out, labM, if_neg (by rw [ho, hr]; decide)]⟩
        subst hl1
        clear ho hr
        go_wp2_with fail
        refine (takes_no w0 w1 p st HPw1 w_optional HO).mono ?_
        rintro e w' ⟨rfl, rfl⟩
        go_wp2_with fail
        refine (takes_no w0 w1 p st HPw1 w_repeated HR).mono ?_
        rintro e w' ⟨rfl, rfl⟩
        go_wp2_with fail
        go_meet
        case rel => exact ⟨by rw [← HS.out]; exact HPw1.out, HBw1.out, HgRw1.out, HgXw1.out⟩
  case rest =>
    obtain ⟨w50, hwN⟩ : ∃ x, x = wc := ⟨_, rfl⟩
    subst hwN
    have HPw50 := Aside0.mk hcut.out.1
    have HBw50 := Aside0.mk hcut.out.2.1
    have HgRw50 := Aside0.mk hcut.out.2.2.1
    have HgXw50 := Aside0.mk hcut.out.2.2.2
    clear hcut HPw1 HBw1 HgRw1 HgXw1
    go_wp2_with fail
    refine (kind_any w0 w50 p s1 HPw50 kd Akd tn Atn s2 As2).mono ?_
    rintro e w51 ⟨rfl, HPw51, hb9⟩
    have HBw51 := Aside0.mk (HBw50.out.trans hb9.out)
    have HgRw51 := Aside0.mk (grown_block hb9.out HgRw50.out HNgR.out)
    have HgXw51 := Aside0.mk (grown_block hb9.out HgXw50.out HNgX.out)
    clear hb9 HPw50 HBw50 HgRw50 HgXw50
    have zgX3 : w51.cell? ⟨gX, 3, none⟩ = some (.int .i64 0) := blk_cell HgXw51.out 3
    have zgX4 : w51.cell? ⟨gX, 4, none⟩ = some (.string ⟨#[]⟩) := blk_cell HgXw51.out 4
    have hfzgX := fun i => blk_frozen HgXw51.out i
    go_upto_region 7 with fail
    change Code.wp _ _ _ _ ((w51.setCell ⟨gX, 3, none⟩ (.int .i64 (kd : Int))).setCell ⟨gX, 4, none⟩ (.string tn))
    have hps := ((HPw51.out.far HNgX.out HWgX.out 3 (.int .i64 (kd : Int))).far HNgX.out HWgX.out 4 (.string tn))
    have hb9 := (grown_far (grown_far HBw51.out HLgX.out 3 (.int .i64 (kd : Int))) HLgX.out 4 (.string tn))
    have hk9 := (blk_set (blk_set HgXw51.out 3 (.int .i64 (kd : Int))) 4 (.string tn))
    simp only [List.setIfInBounds_toArray, List.set_cons_zero, List.set_cons_succ] at hk9
    have hkgR := (blk_far (blk_far HgRw51.out (p := ⟨gX, 3, none⟩) HDgRgX.out (.int .i64 (kd : Int))) (p := ⟨gX, 4, none⟩) HDgRgX.out (.string tn))
    obtain ⟨w52, hw9⟩ : ∃ x, ((w51.setCell ⟨gX, 3, none⟩ (.int .i64 (kd : Int))).setCell ⟨gX, 4, none⟩ (.string tn)) = x := ⟨_, rfl⟩
    rw [hw9] at hps hb9 hk9 hkgR ⊢
    have HPw52 := Aside0.mk hps
    have HBw52 := Aside0.mk hb9
    have HgXw52 := Aside0.mk hk9
    have HgRw52 := Aside0.mk hkgR
    clear hw9 hps hb9 hk9 hkgR zgX3 zgX4 hfzgX HPw51 HBw51 HgRw51 HgXw51
    go_wp2_with fail
    refine (pname_any w0 w52 p s2 HPw52 nm Anm s3 As3).mono ?_
    rintro e w53 ⟨rfl, HPw53, hb9⟩
    have HBw53 := Aside0.mk (HBw52.out.trans hb9.out)
    have HgRw53 := Aside0.mk (grown_block hb9.out HgRw52.out HNgR.out)
    have HgXw53 := Aside0.mk (grown_block hb9.out HgXw52.out HNgX.out)
    clear hb9 HPw52 HBw52 HgRw52 HgXw52
    have zgX0 : w53.cell? ⟨gX, 0, none⟩ = some (.string ⟨#[]⟩) := blk_cell HgXw53.out 0
    have hfzgX := fun i => blk_frozen HgXw53.out i
    go_upto_region 8 with fail
    change Code.wp _ _ _ _ (w53.setCell ⟨gX, 0, none⟩ (.string nm))
    have hps := (HPw53.out.far HNgX.out HWgX.out 0 (.string nm))
    have hb9 := (grown_far HBw53.out HLgX.out 0 (.string nm))
    have hk9 := (blk_set HgXw53.out 0 (.string nm))
    simp only [List.setIfInBounds_toArray, List.set_cons_zero, List.set_cons_succ] at hk9
    have hkgR := (blk_far HgRw53.out (p := ⟨gX, 0, none⟩) HDgRgX.out (.string nm))
    obtain ⟨w54, hw9⟩ : ∃ x, (w53.setCell ⟨gX, 0, none⟩ (.string nm)) = x := ⟨_, rfl⟩
    rw [hw9] at hps hb9 hk9 hkgR ⊢
    have HPw54 := Aside0.mk hps
    have HBw54 := Aside0.mk hb9
    have HgXw54 := Aside0.mk hk9
    have HgRw54 := Aside0.mk hkgR
    clear hw9 hps hb9 hk9 hkgR zgX0 hfzgX HPw53 HBw53 HgRw53 HgXw53
    go_wp2_with fail
    refine (needs_lit w0 w54 p s3 HPw54 [c_eq] (by decide) s4 ⟨As4.out⟩ _ rfl 1 rfl).mono ?_
    rintro e w55 ⟨rfl, HPw55, hb9⟩
    have HBw55 := Aside0.mk (HBw54.out.trans hb9.out)
    have HgRw55 := Aside0.mk (grown_block hb9.out HgRw54.out HNgR.out)
    have HgXw55 := Aside0.mk (grown_block hb9.out HgXw54.out HNgX.out)
    clear hb9 HPw54 HBw54 HgRw54 HgXw54
    go_wp2_with fail
    refine (pnumber_any w0 w55 p s4 HPw55 tg Atg s5 As5).mono ?_
    rintro e w56 ⟨rfl, HPw56, hb9⟩
    have HBw56 := Aside0.mk (HBw55.out.trans hb9.out)
    have HgRw56 := Aside0.mk (grown_block hb9.out HgRw55.out HNgR.out)
    have HgXw56 := Aside0.mk (grown_block hb9.out HgXw55.out HNgX.out)
    clear hb9 HPw55 HBw55 HgRw55 HgXw55
    have zgX1 : w56.cell? ⟨gX, 1, none⟩ = some (.int .i64 0) := blk_cell HgXw56.out 1
    have hfzgX := fun i => blk_frozen HgXw56.out i
    go_upto_region 10 with fail
    change Code.wp _ _ _ _ (w56.setCell ⟨gX, 1, none⟩ (.int .i64 (tg : Int)))
    have hps := (HPw56.out.far HNgX.out HWgX.out 1 (.int .i64 (tg : Int)))
    have hb9 := (grown_far HBw56.out HLgX.out 1 (.int .i64 (tg : Int)))
    have hk9 := (blk_set HgXw56.out 1 (.int .i64 (tg : Int)))
    simp only [List.setIfInBounds_toArray, List.set_cons_zero, List.set_cons_succ] at hk9
    have hkgR := (blk_far HgRw56.out (p := ⟨gX, 1, none⟩) HDgRgX.out (.int .i64 (tg : Int)))
    obtain ⟨w57, hw9⟩ : ∃ x, (w56.setCell ⟨gX, 1, none⟩ (.int .i64 (tg : Int))) = x := ⟨_, rfl⟩
    rw [hw9] at hps hb9 hk9 hkgR ⊢
    have HPw57 := Aside0.mk hps
    have HBw57 := Aside0.mk hb9
    have HgXw57 := Aside0.mk hk9
    have HgRw57 := Aside0.mk hkgR
    clear hw9 hps hb9 hk9 hkgR zgX1 hfzgX HPw56 HBw56 HgRw56 HgXw56
    go_wp2_with fail
    refine (needs_lit w0 w57 p s5 HPw57 [c_semi] (by decide) s6 ⟨As6.out⟩ _ rfl 1 rfl).mono ?_
    rintro e w58 ⟨rfl, HPw58, hb9⟩
    have HBw58 := Aside0.mk (HBw57.out.trans hb9.out)
    have HgRw58 := Aside0.mk (grown_block hb9.out HgRw57.out HNgR.out)
    have HgXw58 := Aside0.mk (grown_block hb9.out HgXw57.out HNgX.out)
    clear hb9 HPw57 HBw57 HgRw57 HgXw57
    have zgX0 : w58.cell? ⟨gX, 0, none⟩ = some (.string nm) := blk_cell HgXw58.out 0
    have zgX1 : w58.cell? ⟨gX, 1, none⟩ = some (.int .i64 (tg : Int)) := blk_cell HgXw58.out 1
    have zgX2 : w58.cell? ⟨gX, 2, none⟩ = some (.int .i64 (lb : Int)) := blk_cell HgXw58.out 2
    have zgX3 : w58.cell? ⟨gX, 3, none⟩ = some (.int .i64 (kd : Int)) := blk_cell HgXw58.out 3
    have zgX4 : w58.cell? ⟨gX, 4, none⟩ = some (.string tn) := blk_cell HgXw58.out 4
    have zgR0 : w58.cell? ⟨gR, 0, none⟩ = some (.string ⟨#[]⟩) := blk_cell HgRw58.out 0
    have zgR1 : w58.cell? ⟨gR, 1, none⟩ = some (.int .i64 0) := blk_cell HgRw58.out 1
    have zgR2 : w58.cell? ⟨gR, 2, none⟩ = some (.int .i64 0) := blk_cell HgRw58.out 2
    have zgR3 : w58.cell? ⟨gR, 3, none⟩ = some (.int .i64 0) := blk_cell HgRw58.out 3
    have zgR4 : w58.cell? ⟨gR, 4, none⟩ = some (.string ⟨#[]⟩) := blk_cell HgRw58.out 4
    have hfzgR := fun i => blk_frozen HgRw58.out i
    go_wp2_with fail
    change bodyPost _ _ _ _ _ (((((w58.setCell ⟨gR, 0, none⟩ (.string nm)).setCell ⟨gR, 1, none⟩ (.int .i64 (tg : Int))).setCell ⟨gR, 2, none⟩ (.int .i64 (lb : Int))).setCell ⟨gR, 3, none⟩ (.int .i64 (kd : Int))).setCell ⟨gR, 4, none⟩ (.string tn))
    have hps := (((((HPw58.out.far HNgR.out HWgR.out 0 (.string nm)).far HNgR.out HWgR.out 1 (.int .i64 (tg : Int))).far HNgR.out HWgR.out 2 (.int .i64 (lb : Int))).far HNgR.out HWgR.out 3 (.int .i64 (kd : Int))).far HNgR.out HWgR.out 4 (.string tn))
    have hb9 := (grown_far (grown_far (grown_far (grown_far (grown_far HBw58.out HLgR.out 0 (.string nm)) HLgR.out 1 (.int .i64 (tg : Int))) HLgR.out 2 (.int .i64 (lb : Int))) HLgR.out 3 (.int .i64 (kd : Int))) HLgR.out 4 (.string tn))
    have hk9 := (blk_set (blk_set (blk_set (blk_set (blk_set HgRw58.out 0 (.string nm)) 1 (.int .i64 (tg : Int))) 2 (.int .i64 (lb : Int))) 3 (.int .i64 (kd : Int))) 4 (.string tn))
    simp only [List.setIfInBounds_toArray, List.set_cons_zero, List.set_cons_succ] at hk9
    have hkgX := (blk_far (blk_far (blk_far (blk_far (blk_far HgXw58.out (p := ⟨gR, 0, none⟩) (fun e => HDgRgX.out e.symm) (.string nm)) (p := ⟨gR, 1, none⟩) (fun e => HDgRgX.out e.symm) (.int .i64 (tg : Int))) (p := ⟨gR, 2, none⟩) (fun e => HDgRgX.out e.symm) (.int .i64 (lb : Int))) (p := ⟨gR, 3, none⟩) (fun e => HDgRgX.out e.symm) (.int .i64 (kd : Int))) (p := ⟨gR, 4, none⟩) (fun e => HDgRgX.out e.symm) (.string tn))
    obtain ⟨w59, hw9⟩ : ∃ x, (((((w58.setCell ⟨gR, 0, none⟩ (.string nm)).setCell ⟨gR, 1, none⟩ (.int .i64 (tg : Int))).setCell ⟨gR, 2, none⟩ (.int .i64 (lb : Int))).setCell ⟨gR, 3, none⟩ (.int .i64 (kd : Int))).setCell ⟨gR, 4, none⟩ (.string tn)) = x := ⟨_, rfl⟩
    rw [hw9] at hps hb9 hk9 hkgX ⊢
    have HPw59 := Aside0.mk hps
    have HBw59 := Aside0.mk hb9
    have HgRw59 := Aside0.mk hk9
    have HgXw59 := Aside0.mk hkgX
    clear hw9 hps hb9 hk9 hkgX zgR0 zgR1 zgR2 zgR3 zgR4 hfzgR HPw58 HBw58 HgRw58 HgXw58
    clear zgX0 zgX1 zgX2 zgX3 zgX4
    have zgR0 : w59.cell? ⟨gR, 0, none⟩ = some (.string nm) := blk_cell HgRw59.out 0
    have zgR1 : w59.cell? ⟨gR, 1, none⟩ = some (.int .i64 (tg : Int)) := blk_cell HgRw59.out 1
    have zgR2 : w59.cell? ⟨gR, 2, none⟩ = some (.int .i64 (lb : Int)) := blk_cell HgRw59.out 2
    have zgR3 : w59.cell? ⟨gR, 3, none⟩ = some (.int .i64 (kd : Int)) := blk_cell HgRw59.out 3
    have zgR4 : w59.cell? ⟨gR, 4, none⟩ = some (.string tn) := blk_cell HgRw59.out 4
    refine bodyPost_ret (v := .agg #[.string nm, .int .i64 (tg : Int), .int .i64 (lb : Int), .int .i64 (kd : Int), .string tn]) ?_ rfl ?_
    · rw [results_cell rfl]
      go_simp
      first | rfl | done
    · exact ⟨by rw [HFV.out], ⟨by rw [HFM.out]; exact HPw59.out⟩, HBw59⟩
end Go.Proofs.YtbfhglaaombglaaDoor

/- The parser: call. -/
namespace Go.Proofs.YtbfhglaaombglaaDoor
set_option linter.unusedVariables false
set_option linter.unusedSimpArgs false
open Go.RowKit Go.Proofs.YtbfhglaaombglaaDoorW.PrintWords

set_option maxRecDepth 100000 in
set_option maxHeartbeats 2000000 in
theorem call_any (w0 w : World) (p : Nat) (st : St) (H : Aside0 (PS w0 w p st)) :
    Calls Tryd.prog 37 #[.pointer (some ⟨p, 0, none⟩)] w fun e w' => e = .returned (.agg #[.string (callV st).name, .string (callV st).inn, .string (callV st).out]) ∧ Aside0 (PS w0 w' p (callM st)) ∧ Aside0 (w.grownBy w' (some p)) := by
  obtain ⟨s1, hs1⟩ : ∃ s, nameM st = s := ⟨_, rfl⟩
  obtain ⟨s2, hs2⟩ : ∃ s, need c_po s1 = s := ⟨_, rfl⟩
  obtain ⟨s3, hs3⟩ : ∃ s, nameM s2 = s := ⟨_, rfl⟩
  obtain ⟨s4, hs4⟩ : ∃ s, need c_po (need w_returns (need c_pc s3)) = s := ⟨_, rfl⟩
  obtain ⟨s5, hs5⟩ : ∃ s, nameM s4 = s := ⟨_, rfl⟩
  obtain ⟨s6, hs6⟩ : ∃ s, need c_semi (need c_pc s5) = s := ⟨_, rfl⟩
  obtain ⟨nm, hnm⟩ : ∃ x, nameV st = x := ⟨_, rfl⟩
  obtain ⟨ni, hni⟩ : ∃ x, nameV s2 = x := ⟨_, rfl⟩
  obtain ⟨no, hno⟩ : ∃ x, nameV s4 = x := ⟨_, rfl⟩
  have HFV : Aside0 (callV st = ⟨nm, ni, no⟩) := ⟨by rw [callV]; simp only [hs1, hs2, hs3, hs4, hnm, hni, hno]⟩
  have HFM : Aside0 (callM st = s6) := ⟨by rw [callM]; simp only [hs1, hs2, hs3, hs4, hs5, hs6]⟩
  have As1 := Aside0.mk hs1
  have As2 := Aside0.mk hs2
  have As3 := Aside0.mk hs3
  have As4 := Aside0.mk hs4
  have As5 := Aside0.mk hs5
  have As6 := Aside0.mk hs6
  have Anm := Aside0.mk hnm
  have Ani := Aside0.mk hni
  have Ano := Aside0.mk hno
  clear hs1 hs2 hs3 hs4 hs5 hs6 hnm hni hno
  have HLT := Aside0.mk H.out.lt
  go_enter Tryd.func37, Tryd.ntmps37
  go_upto_region 1 with fail
  change Code.wp _ _ _ _ (w.alloc (.cells #[.string ⟨#[]⟩, .string ⟨#[]⟩, .string ⟨#[]⟩] 72))
  have hbel : Below w.heap.size w (w.alloc (.cells #[.string ⟨#[]⟩, .string ⟨#[]⟩, .string ⟨#[]⟩] 72)) := ((Below.refl w.heap.size w).alloc (Nat.le_refl _) _)
  have hgR : (w.alloc (.cells #[.string ⟨#[]⟩, .string ⟨#[]⟩, .string ⟨#[]⟩] 72)).heap[w.heap.size]? = some (.cells #[.string ⟨#[]⟩, .string ⟨#[]⟩, .string ⟨#[]⟩] 72 (0, 0)) := by
    have h9 := heap_alloc_new w (.cells #[.string ⟨#[]⟩, .string ⟨#[]⟩, .string ⟨#[]⟩] 72)
    exact h9
  obtain ⟨gR, hggR⟩ : ∃ g, w.heap.size = g := ⟨_, rfl⟩
  have hps := H.out.below hbel
  obtain ⟨w1, hw9⟩ : ∃ x, (w.alloc (.cells #[.string ⟨#[]⟩, .string ⟨#[]⟩, .string ⟨#[]⟩] 72)) = x := ⟨_, rfl⟩
  rw [hggR, hw9] at hgR
  rw [hw9] at hps hbel ⊢
  have HPw1 := Aside0.mk hps
  have HBw1 := Aside0.mk (below_grownBy hbel (some p))
  have HgRw1 := Aside0.mk hgR
  have HLgR : Aside0 (w.heap.size ≤ gR) := ⟨by omega⟩
  have HNgR : Aside0 (gR ≠ p) := ⟨by have := HLT.out; omega⟩
  have HWgR : Aside0 (w0.heap.size ≤ gR) := ⟨Nat.le_trans H.out.bel.size HLgR.out⟩
  simp only [hggR]
  clear hw9 hps hbel hggR hgR
  go_wp2_with fail
  refine (pname_any w0 w1 p st HPw1 nm Anm s1 As1).mono ?_
  rintro e w2 ⟨rfl, HPw2, hb9⟩
  have HBw2 := Aside0.mk (HBw1.out.trans hb9.out)
  have HgRw2 := Aside0.mk (grown_block hb9.out HgRw1.out HNgR.out)
  clear hb9 HPw1 HBw1 HgRw1
  go_upto_region 2 with fail
  change Code.wp _ _ _ _ (w2.alloc (.cells #[.string nm, .string ⟨#[]⟩, .string ⟨#[]⟩] 72))
  have hbel : Below w2.heap.size w2 (w2.alloc (.cells #[.string nm, .string ⟨#[]⟩, .string ⟨#[]⟩] 72)) := (Below.refl _ _).alloc (Nat.le_refl _) _
  have hk9 := heap_alloc_new w2 (.cells #[.string nm, .string ⟨#[]⟩, .string ⟨#[]⟩] 72)
  have hps := HPw2.out.below hbel
  have hb9 := HBw2.out.trans (below_grownBy hbel (some p))
  have hkgR := (hbel.block _ (blk_lt HgRw2.out)).trans HgRw2.out
  obtain ⟨gX, hggX⟩ : ∃ g, w2.heap.size = g := ⟨_, rfl⟩
  have HLgX : Aside0 (w.heap.size ≤ gX) := ⟨by rw [← hggX]; exact HBw2.out.size⟩
  have HNgX : Aside0 (gX ≠ p) := ⟨by rw [← hggX]; exact fun e => by have := HPw2.out.lt; omega⟩
  have HWgX : Aside0 (w0.heap.size ≤ gX) := ⟨by rw [← hggX]; exact HPw2.out.bel.size⟩
  have HDgRgX : Aside0 (gR ≠ gX) := ⟨by rw [← hggX]; exact fun e => by have := blk_lt HgRw2.out; omega⟩
  obtain ⟨w3, hw9⟩ : ∃ x, w2.alloc (.cells #[.string nm, .string ⟨#[]⟩, .string ⟨#[]⟩] 72) = x := ⟨_, rfl⟩
  rw [hggX] at hk9
  rw [hw9] at hps hb9 hk9 hkgR ⊢
  have HPw3 := Aside0.mk hps
  have HBw3 := Aside0.mk hb9
  have HgXw3 := Aside0.mk hk9
  have HgRw3 := Aside0.mk hkgR
  simp only [hggX]
  clear hw9 hps hb9 hk9 hbel hggX hkgR HPw2 HBw2 HgRw2
  go_wp2_with fail
  refine (needs_lit w0 w3 p s1 HPw3 [c_po] (by decide) s2 ⟨As2.out⟩ _ rfl 1 rfl).mono ?_
  rintro e w4 ⟨rfl, HPw4, hb9⟩
  have HBw4 := Aside0.mk (HBw3.out.trans hb9.out)
  have HgRw4 := Aside0.mk (grown_block hb9.out HgRw3.out HNgR.out)
  have HgXw4 := Aside0.mk (grown_block hb9.out HgXw3.out HNgX.out)
  clear hb9 HPw3 HBw3 HgRw3 HgXw3
  go_wp2_with fail
  refine (pname_any w0 w4 p s2 HPw4 ni Ani s3 As3).mono ?_
  rintro e w5 ⟨rfl, HPw5, hb9⟩
  have HBw5 := Aside0.mk (HBw4.out.trans hb9.out)
  have HgRw5 := Aside0.mk (grown_block hb9.out HgRw4.out HNgR.out)
  have HgXw5 := Aside0.mk (grown_block hb9.out HgXw4.out HNgX.out)
  clear hb9 HPw4 HBw4 HgRw4 HgXw4
  have zgX1 : w5.cell? ⟨gX, 1, none⟩ = some (.string ⟨#[]⟩) := blk_cell HgXw5.out 1
  have hfzgX := fun i => blk_frozen HgXw5.out i
  go_upto_region 4 with fail
  change Code.wp _ _ _ _ (w5.setCell ⟨gX, 1, none⟩ (.string ni))
  have hps := (HPw5.out.far HNgX.out HWgX.out 1 (.string ni))
  have hb9 := (grown_far HBw5.out HLgX.out 1 (.string ni))
  have hk9 := (blk_set HgXw5.out 1 (.string ni))
  simp only [List.setIfInBounds_toArray, List.set_cons_zero, List.set_cons_succ] at hk9
  have hkgR := (blk_far HgRw5.out (p := ⟨gX, 1, none⟩) HDgRgX.out (.string ni))
  obtain ⟨w6, hw9⟩ : ∃ x, (w5.setCell ⟨gX, 1, none⟩ (.string ni)) = x := ⟨_, rfl⟩
  rw [hw9] at hps hb9 hk9 hkgR ⊢
  have HPw6 := Aside0.mk hps
  have HBw6 := Aside0.mk hb9
  have HgXw6 := Aside0.mk hk9
  have HgRw6 := Aside0.mk hkgR
  clear hw9 hps hb9 hk9 hkgR zgX1 hfzgX HPw5 HBw5 HgRw5 HgXw5
  go_wp2_with fail
  refine (needs_lit w0 w6 p s3 HPw6 [c_pc, w_returns, c_po] (by decide) s4 ⟨As4.out⟩ _ rfl 3 rfl).mono ?_
  rintro e w7 ⟨rfl, HPw7, hb9⟩
  have HBw7 := Aside0.mk (HBw6.out.trans hb9.out)
  have HgRw7 := Aside0.mk (grown_block hb9.out HgRw6.out HNgR.out)
  have HgXw7 := Aside0.mk (grown_block hb9.out HgXw6.out HNgX.out)
  clear hb9 HPw6 HBw6 HgRw6 HgXw6
  go_wp2_with fail
  refine (pname_any w0 w7 p s4 HPw7 no Ano s5 As5).mono ?_
  rintro e w8 ⟨rfl, HPw8, hb9⟩
  have HBw8 := Aside0.mk (HBw7.out.trans hb9.out)
  have HgRw8 := Aside0.mk (grown_block hb9.out HgRw7.out HNgR.out)
  have HgXw8 := Aside0.mk (grown_block hb9.out HgXw7.out HNgX.out)
  clear hb9 HPw7 HBw7 HgRw7 HgXw7
  have zgX2 : w8.cell? ⟨gX, 2, none⟩ = some (.string ⟨#[]⟩) := blk_cell HgXw8.out 2
  have hfzgX := fun i => blk_frozen HgXw8.out i
  go_upto_region 6 with fail
  change Code.wp _ _ _ _ (w8.setCell ⟨gX, 2, none⟩ (.string no))
  have hps := (HPw8.out.far HNgX.out HWgX.out 2 (.string no))
  have hb9 := (grown_far HBw8.out HLgX.out 2 (.string no))
  have hk9 := (blk_set HgXw8.out 2 (.string no))
  simp only [List.setIfInBounds_toArray, List.set_cons_zero, List.set_cons_succ] at hk9
  have hkgR := (blk_far HgRw8.out (p := ⟨gX, 2, none⟩) HDgRgX.out (.string no))
  obtain ⟨w9, hw9⟩ : ∃ x, (w8.setCell ⟨gX, 2, none⟩ (.string no)) = x := ⟨_, rfl⟩
  rw [hw9] at hps hb9 hk9 hkgR ⊢
  have HPw9 := Aside0.mk hps
  have HBw9 := Aside0.mk hb9
  have HgXw9 := Aside0.mk hk9
  have HgRw9 := Aside0.mk hkgR
  clear hw9 hps hb9 hk9 hkgR zgX2 hfzgX HPw8 HBw8 HgRw8 HgXw8
  go_wp2_with fail
  refine (needs_lit w0 w9 p s5 HPw9 [c_pc, c_semi] (by decide) s6 ⟨As6.out⟩ _ rfl 2 rfl).mono ?_
  rintro e w10 ⟨rfl, HPw10, hb9⟩
  have HBw10 := Aside0.mk (HBw9.out.trans hb9.out)
  have HgRw10 := Aside0.mk (grown_block hb9.out HgRw9.out HNgR.out)
  have HgXw10 := Aside0.mk (grown_block hb9.out HgXw9.out HNgX.out)
  clear hb9 HPw9 HBw9 HgRw9 HgXw9
  have zgX0 : w10.cell? ⟨gX, 0, none⟩ = some (.string nm) := blk_cell HgXw10.out 0
  have zgX1 : w10.cell? ⟨gX, 1, none⟩ = some (.string ni) := blk_cell HgXw10.out 1
  have zgX2 : w10.cell? ⟨gX, 2, none⟩ = some (.string no) := blk_cell HgXw10.out 2
  have zgR0 : w10.cell? ⟨gR, 0, none⟩ = some (.string ⟨#[]⟩) := blk_cell HgRw10.out 0
  have zgR1 : w10.cell? ⟨gR, 1, none⟩ = some (.string ⟨#[]⟩) := blk_cell HgRw10.out 1
  have zgR2 : w10.cell? ⟨gR, 2, none⟩ = some (.string ⟨#[]⟩) := blk_cell HgRw10.out 2
  have hfzgR := fun i => blk_frozen HgRw10.out i
  go_wp2_with fail
  change bodyPost _ _ _ _ _ (((w10.setCell ⟨gR, 0, none⟩ (.string nm)).setCell ⟨gR, 1, none⟩ (.string ni)).setCell ⟨gR, 2, none⟩ (.string no))
  have hps := (((HPw10.out.far HNgR.out HWgR.out 0 (.string nm)).far HNgR.out HWgR.out 1 (.string ni)).far HNgR.out HWgR.out 2 (.string no))
  have hb9 := (grown_far (grown_far (grown_far HBw10.out HLgR.out 0 (.string nm)) HLgR.out 1 (.string ni)) HLgR.out 2 (.string no))
  have hk9 := (blk_set (blk_set (blk_set HgRw10.out 0 (.string nm)) 1 (.string ni)) 2 (.string no))
  simp only [List.setIfInBounds_toArray, List.set_cons_zero, List.set_cons_succ] at hk9
  have hkgX := (blk_far (blk_far (blk_far HgXw10.out (p := ⟨gR, 0, none⟩) (fun e => HDgRgX.out e.symm) (.string nm)) (p := ⟨gR, 1, none⟩) (fun e => HDgRgX.out e.symm) (.string ni)) (p := ⟨gR, 2, none⟩) (fun e => HDgRgX.out e.symm) (.string no))
  obtain ⟨w11, hw9⟩ : ∃ x, (((w10.setCell ⟨gR, 0, none⟩ (.string nm)).setCell ⟨gR, 1, none⟩ (.string ni)).setCell ⟨gR, 2, none⟩ (.string no)) = x := ⟨_, rfl⟩
  rw [hw9] at hps hb9 hk9 hkgX ⊢
  have HPw11 := Aside0.mk hps
  have HBw11 := Aside0.mk hb9
  have HgRw11 := Aside0.mk hk9
  have HgXw11 := Aside0.mk hkgX
  clear hw9 hps hb9 hk9 hkgX zgR0 zgR1 zgR2 hfzgR HPw10 HBw10 HgRw10 HgXw10
  clear zgX0 zgX1 zgX2
  have zgR0 : w11.cell? ⟨gR, 0, none⟩ = some (.string nm) := blk_cell HgRw11.out 0
  have zgR1 : w11.cell? ⟨gR, 1, none⟩ = some (.string ni) := blk_cell HgRw11.out 1
  have zgR2 : w11.cell? ⟨gR, 2, none⟩ = some (.string no) := blk_cell HgRw11.out 2
  refine bodyPost_ret (v := .agg #[.string nm, .string ni, .string no]) ?_ rfl ?_
  · rw [results_cell rfl]
    go_simp
    first | rfl | done
  · exact ⟨by rw [HFV.out], ⟨by rw [HFM.out]; exact HPw11.out⟩, HBw11⟩
end Go.Proofs.YtbfhglaaombglaaDoor

/- What the parser makes: its kinds; rows that grow. -/
namespace Go.Proofs.YtbfhglaaombglaaDoor
set_option linter.unusedVariables false
set_option linter.unusedSimpArgs false
open Go.RowKit Go.Proofs.YtbfhglaaombglaaDoorW.PrintWords Go.Proofs.YtbfhglaaombglaaDoor.PIdlParses

def nS (x : ByteArray × Nat) : S89 := ⟨x.1, (x.2 : Int)⟩
def fS (f : Fd) : S43 := ⟨f.name, (f.tag : Int), (f.label : Int), ⟨(kk7 f.kind : Int), f.tname⟩⟩
def eS (e : En) : S68 := ⟨e.name, e.vals.map nS⟩
def mS (m : Mt) : S72 := ⟨m.name, m.inn, m.out⟩
def nums_ (l : List Nat) : List Int := l.map fun (n : Nat) => (n : Int)
def gS (m : Mg) : S45 := ⟨m.name, m.fields.map fS, nums_ m.res⟩
theorem infoNamed : (Tryd.prog.info? 89).map (fun i => (i.zero, i.size, i.bytes)) = some (some (.agg #[.string ⟨#[]⟩, .int .i64 0]), 2, 24) := by kernel_rfl
theorem infoField : (Tryd.prog.info? 43).map (fun i => (i.zero, i.size, i.bytes)) = some (some (.agg #[.string ⟨#[]⟩, .int .i64 0, .int .i64 0, .int .i64 0, .string ⟨#[]⟩]), 5, 56) := by kernel_rfl
theorem infoInt : (Tryd.prog.info? 3).map (fun i => (i.zero, i.size, i.bytes)) = some (some (.int .i64 0), 1, 8) := by kernel_rfl
theorem infoMessage : (Tryd.prog.info? 45).map (fun i => (i.zero, i.size, i.bytes)) = some (some (.agg #[.string ⟨#[]⟩, .slice none 0 0, .slice none 0 0]), 3, 64) := by kernel_rfl
theorem infoEnum : (Tryd.prog.info? 68).map (fun i => (i.zero, i.size, i.bytes)) = some (some (.agg #[.string ⟨#[]⟩, .slice none 0 0]), 2, 40) := by kernel_rfl
theorem infoMethod : (Tryd.prog.info? 72).map (fun i => (i.zero, i.size, i.bytes)) = some (some (.agg #[.string ⟨#[]⟩, .string ⟨#[]⟩, .string ⟨#[]⟩]), 3, 48) := by kernel_rfl
/-- A row of the call's own has grown: the parser stays. -/
theorem app_frame {α : Type} {d : Kd α} {w0 w W w1 : World} {p : Nat} {s : St} {e : TypeId} {v : Value} {xs : List α} {ok : Nat → Prop} (HP : PS w0 W p s) (HB : w.grownBy W (some p)) (hw : w0.heap.size ≤ w.heap.size)
    (hv : d.R e W w.heap.size ok v xs) (he : e ≠ 54) (hg : W.grownBy w1 v.ownBlock) : PS w0 w1 p s ∧ w.grownBy w1 (some p) := by
  have hb : ∀ k, v.ownBlock = some k → w.heap.size ≤ k := fun k hk => by
    obtain ⟨inner, ho⟩ := Kd.R_own hv
    exact own_base ho k hk
  obtain ⟨u, hk⟩ := HP.wrong
  exact ⟨HP.other hg (Kd.R_ne hv hk he) (fun k hk => Nat.le_trans hw (hb k hk)), HB.andThen hg (fun j hj => .inl (hb j hj))⟩
theorem row_far {α : Type} {d : Kd α} {e : TypeId} {W : World} {base : Nat} {ok : Nat → Prop} {v : Value} {xs : List α} (h : d.R e W base ok v xs) {g t : Nat} {cells : Array Value} (hk : W.heap[g]? = some (.cells cells t (0, 0))) (ht : ∀ q, q ∈ e :: d.E → q ≠ t) (j : Nat) (u : Value) : d.R e (W.setCell ⟨g, j, none⟩ u) base ok v xs := Kd.R_set h hk ht j u
/-- The parser was called: a row stays. -/
theorem row_call {α : Type} {d : Kd α} {e : TypeId} {w0 W w1 : World} {base p : Nat} {ok : Nat → Prop} {s : St} {v : Value} {xs : List α} (h : d.R e W base ok v xs) (HP : PS w0 W p s) (ht : ∀ q, q ∈ e :: d.E → q ≠ 54) (hg : W.grownBy w1 (some p)) : d.R e w1 base ok v xs := by
  obtain ⟨u, hk⟩ := HP.wrong
  exact Kd.R_mono (Kd.R_step (Kd.R_types h hk ht) (fun k hk hl => hg.block k hl (fun e => hk.2 (Option.some.inj e)))) (fun _ hk => hk.1)
/-- Another row has grown. -/
theorem row_other {α β : Type} {d : Kd α} {d' : Kd β} {e e' : TypeId} {W w1 : World} {base base' : Nat} {ok ok' : Nat → Prop} {v v' : Value} {xs : List α} {ys : List β} (h : d.R e W base ok v xs) (h' : d'.R e' W base' ok' v' ys) (ht : ∀ q, q ∈ e :: d.E → q ≠ e') (hg : W.grownBy w1 v'.ownBlock) : d.R e w1 base ok v xs := by
  refine Kd.R_mono (Kd.R_step (Kd.R_bound h) (fun k hk hl => hg.block k hl (fun e9 => ?_))) (fun _ hk => hk.1)
  obtain ⟨_, _, _, q, hq, cells, hc⟩ := hk
  obtain ⟨inner, ho⟩ := Kd.R_own h'
  obtain ⟨cells', hc'⟩ := own_typed ho k e9.symm
  rw [hc] at hc'
  injection hc' with hc'
  injection hc' with _ hc'
  exact ht q hq hc'
end Go.Proofs.YtbfhglaaombglaaDoor

/- The parser: enum. -/
namespace Go.Proofs.YtbfhglaaombglaaDoor
set_option linter.unusedVariables false
set_option linter.unusedSimpArgs false
open Go.RowKit Go.Proofs.YtbfhglaaombglaaDoorW.PrintWords Go.Proofs.YtbfhglaaombglaaDoor.PIdlParses

set_option maxRecDepth 100000 in
set_option maxHeartbeats 4000000 in
theorem enum_any (w0 w : World) (p : Nat) (st : St) (H : Aside0 (PS w0 w p st)) :
    Calls Tryd.prog 36 #[.pointer (some ⟨p, 0, none⟩)] w fun e w' => ∃ vV, e = .returned (.agg #[.string (enumV st).name, vV]) ∧ Aside0 (k89.R 89 w' w.heap.size (fun _ => True) vV ((enumV st).vals.map nS)) ∧ Aside0 (PS w0 w' p (enumM st)) ∧ Aside0 (w.grownBy w' (some p)) := by
  have hmu0 : mu (need c_open (nameM st)) ≤ 20001 := by
    have h1 := mu_name st
    have h2 := mu_need c_open (nameM st)
    have h3 : mu st ≤ 20001 := by have := H.out.len; unfold mu; split <;> omega
    omega
  obtain ⟨s1, hs1⟩ : ∃ s, nameM st = s := ⟨_, rfl⟩
  obtain ⟨s2, hs2⟩ : ∃ s, need c_open s1 = s := ⟨_, rfl⟩
  obtain ⟨nm, hnm⟩ : ∃ x, nameV st = x := ⟨_, rfl⟩
  obtain ⟨LL, S6, hE⟩ : ∃ a b, enumA [] s2 = (a, b) := ⟨_, _, rfl⟩
  have HFV : Aside0 (enumV st = ⟨nm, LL⟩) := ⟨by rw [enumV, hs1, hs2, hE, hnm]⟩
  have HFM : Aside0 (enumM st = S6) := ⟨by rw [enumM, hs1, hs2, hE]⟩
  rw [hs1, hs2] at hmu0
  have As1 := Aside0.mk hs1
  have As2 := Aside0.mk hs2
  have Anm := Aside0.mk hnm
  have HE0 := Aside0.mk hE
  clear hs1 hs2 hnm hE
  have HLT := Aside0.mk H.out.lt
  go_enter Tryd.func36, Tryd.ntmps36
  go_upto_region 1 with fail
  change Code.wp _ _ _ _ (w.alloc (.cells #[.string ⟨#[]⟩, .slice none 0 0] 68))
  have hbel : Below w.heap.size w (w.alloc (.cells #[.string ⟨#[]⟩, .slice none 0 0] 68)) := ((Below.refl w.heap.size w).alloc (Nat.le_refl _) _)
  have hgR : (w.alloc (.cells #[.string ⟨#[]⟩, .slice none 0 0] 68)).heap[w.heap.size]? = some (.cells #[.string ⟨#[]⟩, .slice none 0 0] 68 (0, 0)) := by
    have h9 := heap_alloc_new w (.cells #[.string ⟨#[]⟩, .slice none 0 0] 68)
    exact h9
  obtain ⟨gR, hggR⟩ : ∃ g, w.heap.size = g := ⟨_, rfl⟩
  have hps := H.out.below hbel
  obtain ⟨w1, hw9⟩ : ∃ x, (w.alloc (.cells #[.string ⟨#[]⟩, .slice none 0 0] 68)) = x := ⟨_, rfl⟩
  rw [hggR, hw9] at hgR
  rw [hw9] at hps hbel ⊢
  have HPw1 := Aside0.mk hps
  have HBw1 := Aside0.mk (below_grownBy hbel (some p))
  have HgRw1 := Aside0.mk hgR
  have HLgR : Aside0 (w.heap.size ≤ gR) := ⟨by omega⟩
  have HNgR : Aside0 (gR ≠ p) := ⟨by have := HLT.out; omega⟩
  have HWgR : Aside0 (w0.heap.size ≤ gR) := ⟨Nat.le_trans H.out.bel.size HLgR.out⟩
  simp only [hggR]
  clear hw9 hps hbel hggR hgR
  go_wp2_with fail
  refine (pname_any w0 w1 p st HPw1 nm Anm s1 As1).mono ?_
  rintro e w2 ⟨rfl, HPw2, hb9⟩
  have HBw2 := Aside0.mk (HBw1.out.trans hb9.out)
  have HgRw2 := Aside0.mk (grown_block hb9.out HgRw1.out HNgR.out)
  clear hb9 HPw1 HBw1 HgRw1
  go_upto_region 2 with fail
  change Code.wp _ _ _ _ (w2.alloc (.cells #[.string nm, .slice none 0 0] 68))
  have hbel : Below w2.heap.size w2 (w2.alloc (.cells #[.string nm, .slice none 0 0] 68)) := (Below.refl _ _).alloc (Nat.le_refl _) _
  have hk9 := heap_alloc_new w2 (.cells #[.string nm, .slice none 0 0] 68)
  have hps := HPw2.out.below hbel
  have hb9 := HBw2.out.trans (below_grownBy hbel (some p))
  have hkgR := (hbel.block _ (blk_lt HgRw2.out)).trans HgRw2.out
  obtain ⟨gX, hggX⟩ : ∃ g, w2.heap.size = g := ⟨_, rfl⟩
  have HLgX : Aside0 (w.heap.size ≤ gX) := ⟨by rw [← hggX]; exact HBw2.out.size⟩
  have HNgX : Aside0 (gX ≠ p) := ⟨by rw [← hggX]; exact fun e => by have := HPw2.out.lt; omega⟩
  have HWgX : Aside0 (w0.heap.size ≤ gX) := ⟨by rw [← hggX]; exact HPw2.out.bel.size⟩
  have HDgRgX : Aside0 (gR ≠ gX) := ⟨by rw [← hggX]; exact fun e => by have := blk_lt HgRw2.out; omega⟩
  obtain ⟨w3, hw9⟩ : ∃ x, w2.alloc (.cells #[.string nm, .slice none 0 0] 68) = x := ⟨_, rfl⟩
  rw [hggX] at hk9
  rw [hw9] at hps hb9 hk9 hkgR ⊢
  have HPw3 := Aside0.mk hps
  have HBw3 := Aside0.mk hb9
  have HgXw3 := Aside0.mk hk9
  have HgRw3 := Aside0.mk hkgR
  simp only [hggX]
  clear hw9 hps hb9 hk9 hbel hggX hkgR HPw2 HBw2 HgRw2
  go_wp2_with fail
  refine (needs_lit w0 w3 p s1 HPw3 [c_open] (by decide) s2 ⟨As2.out⟩ _ rfl 1 rfl).mono ?_
  rintro e w4 ⟨rfl, HPw4, hb9⟩
  have HBw4 := Aside0.mk (HBw3.out.trans hb9.out)
  have HgRw4 := Aside0.mk (grown_block hb9.out HgRw3.out HNgR.out)
  have HgXw4 := Aside0.mk (grown_block hb9.out HgXw3.out HNgX.out)
  clear hb9 HPw3 HBw3 HgRw3 HgXw3
  go_wp2_with fail
  go_loopw [] (fun wr => ∃ (l : List (ByteArray × Nat)) (q : List S89) (s : St) (A : Option Addr) (c : Nat), Aside0 (l.map nS = q) ∧ Aside0 (enumA l s = (LL, S6)) ∧ q.length + mu s ≤ 20001 ∧ Aside0 (PS w0 wr p s) ∧ Aside0 (w.grownBy wr (some p)) ∧ Aside0 (wr.heap[gR]? = some (.cells #[.string ⟨#[]⟩, .slice none 0 0] 68 (0, 0))) ∧ Aside0 (wr.heap[gX]? = some (.cells #[.string nm, .slice A q.length c] 68 (0, 0))) ∧ Aside0 (k89.R 89 wr w.heap.size (fun _ => True) (.slice A q.length c) (q))) (fun wr => muW wr p)
  case atStart => exact ⟨[], [], s2, none, 0, ⟨rfl⟩, HE0, by simpa using hmu0, HPw4, HBw4, HgRw4, HgXw4, ⟨Kd.R_nil _ _ _ _ _⟩⟩
  case round =>
    clear HE0 hmu0 HPw4 HBw4 HgRw4 HgXw4
    obtain ⟨l, q, s, A, c, HLQ, HE, hls, HPwr, HBwr, HgRwr, HgXwr, HQwr⟩ := hrel
    have HM := Aside0.mk HPwr.out.mu
    obtain ⟨u9, hk9⟩ := HPwr.out.wrong
    have c1 : wr.cell? ⟨p, 1, none⟩ = some (.bool s.2) := blk_cell hk9 1
    clear hk9
    cases hb : s.2 with
    | true =>
      rw [hb] at c1
      have hE2 := HE.out
      rw [enumA_done l s hb] at hE2
      obtain ⟨rfl, rfl⟩ := Prod.mk.inj hE2
      clear hE2 hb
      have zgX0 : wr.cell? ⟨gX, 0, none⟩ = some (.string nm) := blk_cell HgXwr.out 0
      have zgX1 : wr.cell? ⟨gX, 1, none⟩ = some (.slice A q.length c) := blk_cell HgXwr.out 1
      have zgR0 : wr.cell? ⟨gR, 0, none⟩ = some (.string ⟨#[]⟩) := blk_cell HgRwr.out 0
      have zgR1 : wr.cell? ⟨gR, 1, none⟩ = some (.slice none 0 0) := blk_cell HgRwr.out 1
      have hfzgR := fun i => blk_frozen HgRwr.out i
      go_wp2_with fail
      change bodyPost _ _ _ _ _ ((wr.setCell ⟨gR, 0, none⟩ (.string nm)).setCell ⟨gR, 1, none⟩ (.slice A q.length c))
      have hps := ((HPwr.out.far HNgR.out HWgR.out 0 (.string nm)).far HNgR.out HWgR.out 1 (.slice A q.length c))
      have hb9 := (grown_far (grown_far HBwr.out HLgR.out 0 (.string nm)) HLgR.out 1 (.slice A q.length c))
      have hk9 := (blk_set (blk_set HgRwr.out 0 (.string nm)) 1 (.slice A q.length c))
      simp only [List.setIfInBounds_toArray, List.set_cons_zero, List.set_cons_succ] at hk9
      have hkgX := (blk_far (blk_far HgXwr.out (p := ⟨gR, 0, none⟩) (fun e => HDgRgX.out e.symm) (.string nm)) (p := ⟨gR, 1, none⟩) (fun e => HDgRgX.out e.symm) (.slice A q.length c))
      have hrQ := (row_far (row_far HQwr.out HgRwr.out (by decide) 0 (.string nm)) (blk_set HgRwr.out 0 (.string nm)) (by decide) 1 (.slice A q.length c))
      obtain ⟨w5, hw9⟩ : ∃ x, ((wr.setCell ⟨gR, 0, none⟩ (.string nm)).setCell ⟨gR, 1, none⟩ (.slice A q.length c)) = x := ⟨_, rfl⟩
      rw [hw9] at hps hb9 hk9 hkgX hrQ ⊢
      have HPw5 := Aside0.mk hps
      have HBw5 := Aside0.mk hb9
      have HgRw5 := Aside0.mk hk9
      have HgXw5 := Aside0.mk hkgX
      have HQw5 := Aside0.mk hrQ
      clear hw9 hps hb9 hk9 hkgX hrQ zgR0 zgR1 hfzgR HPwr HBwr HgRwr HgXwr HQwr
      clear zgX0 zgX1
      have zgR0 : w5.cell? ⟨gR, 0, none⟩ = some (.string nm) := blk_cell HgRw5.out 0
      have zgR1 : w5.cell? ⟨gR, 1, none⟩ = some (.slice A q.length c) := blk_cell HgRw5.out 1
      refine bodyPost_ret (v := .agg #[.string nm, .slice A q.length c]) ?_ rfl ?_
      · rw [results_cell rfl]
        go_simp
        first | rfl | done
      · exact ⟨_, by rw [HFV.out], ⟨by rw [HFV.out]; simp only [HLQ.out]; exact HQw5.out⟩, ⟨by rw [HFM.out]; exact HPw5.out⟩, HBw5⟩
    | false =>
      rw [hb] at c1
      cases ht : takesB c_close s with
      | true =>
        have HT := Aside0.mk ht
        have hE2 := HE.out
        rw [enumA_close l s ht, takesM, if_pos ht] at hE2
        obtain ⟨rfl, hS6⟩ := Prod.mk.inj hE2
        have HS6 := Aside0.mk hS6
        clear hE2 hb ht hS6
        go_wp2_with fail
        refine (takes_yes w0 wr p s HPwr c_close HT S6 HS6).mono ?_
        rintro e w6 ⟨rfl, HPw6, hb9⟩
        have HBw6 := Aside0.mk (HBwr.out.trans hb9.out)
        have HgRw6 := Aside0.mk (grown_block hb9.out HgRwr.out HNgR.out)
        have HgXw6 := Aside0.mk (grown_block hb9.out HgXwr.out HNgX.out)
        have HQw6 := Aside0.mk (row_call HQwr.out HPwr.out (by decide) hb9.out)
        clear hb9 HPwr HBwr HgRwr HgXwr HQwr
        have zgX0 : w6.cell? ⟨gX, 0, none⟩ = some (.string nm) := blk_cell HgXw6.out 0
        have zgX1 : w6.cell? ⟨gX, 1, none⟩ = some (.slice A q.length c) := blk_cell HgXw6.out 1
        have zgR0 : w6.cell? ⟨gR, 0, none⟩ = some (.string ⟨#[]⟩) := blk_cell HgRw6.out 0
        have zgR1 : w6.cell? ⟨gR, 1, none⟩ = some (.slice none 0 0) := blk_cell HgRw6.out 1
        have hfzgR := fun i => blk_frozen HgRw6.out i
        go_wp2_with fail
        change bodyPost _ _ _ _ _ ((w6.setCell ⟨gR, 0, none⟩ (.string nm)).setCell ⟨gR, 1, none⟩ (.slice A q.length c))
        have hps := ((HPw6.out.far HNgR.out HWgR.out 0 (.string nm)).far HNgR.out HWgR.out 1 (.slice A q.length c))
        have hb9 := (grown_far (grown_far HBw6.out HLgR.out 0 (.string nm)) HLgR.out 1 (.slice A q.length c))
        have hk9 := (blk_set (blk_set HgRw6.out 0 (.string nm)) 1 (.slice A q.length c))
        simp only [List.setIfInBounds_toArray, List.set_cons_zero, List.set_cons_succ] at hk9
        have hkgX := (blk_far (blk_far HgXw6.out (p := ⟨gR, 0, none⟩) (fun e => HDgRgX.out e.symm) (.string nm)) (p := ⟨gR, 1, none⟩) (fun e => HDgRgX.out e.symm) (.slice A q.length c))
        have hrQ := (row_far (row_far HQw6.out HgRw6.out (by decide) 0 (.string nm)) (blk_set HgRw6.out 0 (.string nm)) (by decide) 1 (.slice A q.length c))
        obtain ⟨w7, hw9⟩ : ∃ x, ((w6.setCell ⟨gR, 0, none⟩ (.string nm)).setCell ⟨gR, 1, none⟩ (.slice A q.length c)) = x := ⟨_, rfl⟩
        rw [hw9] at hps hb9 hk9 hkgX hrQ ⊢
        have HPw7 := Aside0.mk hps
        have HBw7 := Aside0.mk hb9
        have HgRw7 := Aside0.mk hk9
        have HgXw7 := Aside0.mk hkgX
        have HQw7 := Aside0.mk hrQ
        clear hw9 hps hb9 hk9 hkgX hrQ zgR0 zgR1 hfzgR HPw6 HBw6 HgRw6 HgXw6 HQw6
        clear zgX0 zgX1
        have zgR0 : w7.cell? ⟨gR, 0, none⟩ = some (.string nm) := blk_cell HgRw7.out 0
        have zgR1 : w7.cell? ⟨gR, 1, none⟩ = some (.slice A q.length c) := blk_cell HgRw7.out 1
        refine bodyPost_ret (v := .agg #[.string nm, .slice A q.length c]) ?_ rfl ?_
        · rw [results_cell rfl]
          go_simp
          first | rfl | done
        · exact ⟨_, by rw [HFV.out], ⟨by rw [HFV.out]; simp only [HLQ.out]; exact HQw7.out⟩, ⟨by rw [HFM.out]; exact HPw7.out⟩, HBw7⟩
      | false =>
        have HT := Aside0.mk ht
        have hm1 := mu_val s
        have hm2 := mu_pos hb
        have HE2 : Aside0 (enumA (l ++ [valV s]) (valM s) = (LL, S6)) := ⟨by rw [← enumA_val l s hb ht]; exact HE.out⟩
        have hls2 : q.length + 1 + mu (valM s) ≤ 20001 := by omega
        have HMM : Aside0 (mu (valM s) < mu s) := ⟨by omega⟩
        obtain ⟨t1, ht1⟩ : ∃ x, nameM s = x := ⟨_, rfl⟩
        obtain ⟨t2, ht2⟩ : ∃ x, need c_eq t1 = x := ⟨_, rfl⟩
        obtain ⟨t3, ht3⟩ : ∃ x, numM t2 = x := ⟨_, rfl⟩
        obtain ⟨t4, ht4⟩ : ∃ x, need c_semi t3 = x := ⟨_, rfl⟩
        obtain ⟨n, hn⟩ : ∃ x, nameV s = x := ⟨_, rfl⟩
        obtain ⟨k, hk⟩ : ∃ x, numV t2 = x := ⟨_, rfl⟩
        have hvv : valV s = (n, k) := by rw [valV, ht1, ht2, hn, hk]
        have hvm : valM s = t4 := by rw [valM, ht1, ht2, ht3, ht4]
        rw [hvv, hvm] at HE2
        rw [hvm] at hls2 HMM
        have At1 := Aside0.mk ht1
        have At2 := Aside0.mk ht2
        have At3 := Aside0.mk ht3
        have At4 := Aside0.mk ht4
        have An := Aside0.mk hn
        have Ak := Aside0.mk hk
        have HLS := Aside0.mk hls2
        clear hvv hvm ht1 ht2 ht3 ht4 hn hk hm1 hm2 hb ht hls2 HE
        go_wp2_with fail
        refine (takes_no w0 wr p s HPwr c_close HT).mono ?_
        rintro e w' ⟨rfl, rfl⟩
        clear c1
        go_wp2_with fail
        refine (pname_any w0 wr p s HPwr n An t1 At1).mono ?_
        rintro e w8 ⟨rfl, HPw8, hb9⟩
        have HBw8 := Aside0.mk (HBwr.out.trans hb9.out)
        have HgRw8 := Aside0.mk (grown_block hb9.out HgRwr.out HNgR.out)
        have HgXw8 := Aside0.mk (grown_block hb9.out HgXwr.out HNgX.out)
        have HQw8 := Aside0.mk (row_call HQwr.out HPwr.out (by decide) hb9.out)
        clear hb9 HPwr HBwr HgRwr HgXwr HQwr
        go_upto_region 5 with fail
        change Code.wp _ _ _ _ (w8.alloc (.cells #[.string n, .int .i64 0] 89))
        have hbel : Below w8.heap.size w8 (w8.alloc (.cells #[.string n, .int .i64 0] 89)) := (Below.refl _ _).alloc (Nat.le_refl _) _
        have hk9 := heap_alloc_new w8 (.cells #[.string n, .int .i64 0] 89)
        have hps := HPw8.out.below hbel
        have hb9 := HBw8.out.trans (below_grownBy hbel (some p))
        have hkgR := (hbel.block _ (blk_lt HgRw8.out)).trans HgRw8.out
        have hkgX := (hbel.block _ (blk_lt HgXw8.out)).trans HgXw8.out
        have hrQ := Kd.R_below (Kd.R_mono (ok' := fun k => k ≠ w8.heap.size) (Kd.R_bound HQw8.out) (fun k hk => Nat.ne_of_lt hk.2.2.1)) hbel
        obtain ⟨gV, hggV⟩ : ∃ g, w8.heap.size = g := ⟨_, rfl⟩
        have HLgV : Aside0 (w.heap.size ≤ gV) := ⟨by rw [← hggV]; exact HBw8.out.size⟩
        have HNgV : Aside0 (gV ≠ p) := ⟨by rw [← hggV]; exact fun e => by have := HPw8.out.lt; omega⟩
        have HWgV : Aside0 (w0.heap.size ≤ gV) := ⟨by rw [← hggV]; exact HPw8.out.bel.size⟩
        have HDgRgV : Aside0 (gR ≠ gV) := ⟨by rw [← hggV]; exact fun e => by have := blk_lt HgRw8.out; omega⟩
        have HDgXgV : Aside0 (gX ≠ gV) := ⟨by rw [← hggV]; exact fun e => by have := blk_lt HgXw8.out; omega⟩
        obtain ⟨w9, hw9⟩ : ∃ x, w8.alloc (.cells #[.string n, .int .i64 0] 89) = x := ⟨_, rfl⟩
        rw [hggV] at hk9
        rw [hggV] at hrQ
        rw [hw9] at hps hb9 hk9 hkgR hkgX hrQ ⊢
        have HPw9 := Aside0.mk hps
        have HBw9 := Aside0.mk hb9
        have HgVw9 := Aside0.mk hk9
        have HgRw9 := Aside0.mk hkgR
        have HgXw9 := Aside0.mk hkgX
        have HQw9 := Aside0.mk hrQ
        simp only [hggV]
        clear hw9 hps hb9 hk9 hbel hggV hkgR hkgX hrQ HPw8 HBw8 HgRw8 HgXw8 HQw8
        go_wp2_with fail
        refine (needs_lit w0 w9 p t1 HPw9 [c_eq] (by decide) t2 ⟨At2.out⟩ _ rfl 1 rfl).mono ?_
        rintro e w10 ⟨rfl, HPw10, hb9⟩
        have HBw10 := Aside0.mk (HBw9.out.trans hb9.out)
        have HgRw10 := Aside0.mk (grown_block hb9.out HgRw9.out HNgR.out)
        have HgXw10 := Aside0.mk (grown_block hb9.out HgXw9.out HNgX.out)
        have HgVw10 := Aside0.mk (grown_block hb9.out HgVw9.out HNgV.out)
        have HQw10 := Aside0.mk (row_call HQw9.out HPw9.out (by decide) hb9.out)
        clear hb9 HPw9 HBw9 HgRw9 HgXw9 HgVw9 HQw9
        go_wp2_with fail
        refine (pnumber_any w0 w10 p t2 HPw10 k Ak t3 At3).mono ?_
        rintro e w11 ⟨rfl, HPw11, hb9⟩
        have HBw11 := Aside0.mk (HBw10.out.trans hb9.out)
        have HgRw11 := Aside0.mk (grown_block hb9.out HgRw10.out HNgR.out)
        have HgXw11 := Aside0.mk (grown_block hb9.out HgXw10.out HNgX.out)
        have HgVw11 := Aside0.mk (grown_block hb9.out HgVw10.out HNgV.out)
        have HQw11 := Aside0.mk (row_call HQw10.out HPw10.out (by decide) hb9.out)
        clear hb9 HPw10 HBw10 HgRw10 HgXw10 HgVw10 HQw10
        have zgV1 : w11.cell? ⟨gV, 1, none⟩ = some (.int .i64 0) := blk_cell HgVw11.out 1
        have hfzgV := fun i => blk_frozen HgVw11.out i
        go_upto_region 7 with fail
        change Code.wp _ _ _ _ (w11.setCell ⟨gV, 1, none⟩ (.int .i64 (k : Int)))
        have hps := (HPw11.out.far HNgV.out HWgV.out 1 (.int .i64 (k : Int)))
        have hb9 := (grown_far HBw11.out HLgV.out 1 (.int .i64 (k : Int)))
        have hk9 := (blk_set HgVw11.out 1 (.int .i64 (k : Int)))
        simp only [List.setIfInBounds_toArray, List.set_cons_zero, List.set_cons_succ] at hk9
        have hkgR := (blk_far HgRw11.out (p := ⟨gV, 1, none⟩) HDgRgV.out (.int .i64 (k : Int)))
        have hkgX := (blk_far HgXw11.out (p := ⟨gV, 1, none⟩) HDgXgV.out (.int .i64 (k : Int)))
        have hrQ := (Kd.R_far HQw11.out (p := ⟨gV, 1, none⟩) (fun k hk => hk) (.int .i64 (k : Int)))
        obtain ⟨w12, hw9⟩ : ∃ x, (w11.setCell ⟨gV, 1, none⟩ (.int .i64 (k : Int))) = x := ⟨_, rfl⟩
        rw [hw9] at hps hb9 hk9 hkgR hkgX hrQ ⊢
        have HPw12 := Aside0.mk hps
        have HBw12 := Aside0.mk hb9
        have HgVw12 := Aside0.mk hk9
        have HgRw12 := Aside0.mk hkgR
        have HgXw12 := Aside0.mk hkgX
        have HQw12 := Aside0.mk hrQ
        clear hw9 hps hb9 hk9 hkgR hkgX hrQ zgV1 hfzgV HPw11 HBw11 HgRw11 HgXw11 HgVw11 HQw11
        go_wp2_with fail
        refine (needs_lit w0 w12 p t3 HPw12 [c_semi] (by decide) t4 ⟨At4.out⟩ _ rfl 1 rfl).mono ?_
        rintro e w13 ⟨rfl, HPw13, hb9⟩
        have HBw13 := Aside0.mk (HBw12.out.trans hb9.out)
        have HgRw13 := Aside0.mk (grown_block hb9.out HgRw12.out HNgR.out)
        have HgXw13 := Aside0.mk (grown_block hb9.out HgXw12.out HNgX.out)
        have HgVw13 := Aside0.mk (grown_block hb9.out HgVw12.out HNgV.out)
        have HQw13 := Aside0.mk (row_call HQw12.out HPw12.out (by decide) hb9.out)
        clear hb9 HPw12 HBw12 HgRw12 HgXw12 HgVw12 HQw12
        have zgV0 : w13.cell? ⟨gV, 0, none⟩ = some (.string n) := blk_cell HgVw13.out 0
        have zgV1 : w13.cell? ⟨gV, 1, none⟩ = some (.int .i64 (k : Int)) := blk_cell HgVw13.out 1
        have zgX1 : w13.cell? ⟨gX, 1, none⟩ = some (.slice A q.length c) := blk_cell HgXw13.out 1
        clear HgVw13
        go_wp2_with (at_builtin; refine Kd.R_append k89 (w0 := w13) (W := w13) w.heap.size ?hgd (.tmp 34) (.tmp 36) 66 89 (.agg #[.string ⟨#[]⟩, .int .i64 0]) 24 ?ho ?ht ?hinfo ?hz ?hs0 ?hb0 (.slice A q.length c) (q) (nS (n, k)) [.string n, .int .i64 (k : Int)] (fun _ => True) (fun _ => False) ?hs ?hx ?hp ?hokp ?hfresh ?HO ?HB ?hbase ?hl ?h)
        case hgd => rfl
        case ho => rfl
        case ht => exact Tryd.underlying66
        case hinfo => exact infoNamed
        case hz => rfl
        case hs0 => decide
        case hb0 => decide
        case hs => rfl
        case hx => rfl
        case hp => exact k89_mkM _ _ _ (nS (n, k))
        case hokp => exact fun _ h => h.elim
        case hfresh => exact fun _ _ => trivial
        case HO => exact Kd.R_mono HQw13.out (fun _ _ => trivial)
        case HB => exact Below.refl _ _
        case hbase => exact HBw13.out.size
        case hl => omega
        case h =>
          intro v9 w14 hr9 hb9 hg9 hat9
          obtain ⟨A9, c9, rfl⟩ := Kd.R_slice hr9
          obtain ⟨hp9, hf9⟩ := app_frame HPw13.out HBw13.out H.out.bel.size HQw13.out (by decide) hg9
          have hkgR := blk_grown HgRw13.out hg9 (Kd.R_ne HQw13.out HgRw13.out (by decide))
          have hkgX := blk_grown HgXw13.out hg9 (Kd.R_ne HQw13.out HgXw13.out (by decide))
          have HPw14 := Aside0.mk hp9
          have HBw14 := Aside0.mk hf9
          have HQw14 := Aside0.mk hr9
          have HgRw14 := Aside0.mk hkgR
          have HgXw14 := Aside0.mk hkgX
          clear hr9 hb9 hg9 hat9 hp9 hf9 hkgR hkgX HPw13 HBw13 HgRw13 HgXw13 HQw13
          clear zgV0 zgV1 zgX1
          have zgX1 : w14.cell? ⟨gX, 1, none⟩ = some (.slice A q.length c) := blk_cell HgXw14.out 1
          have hfzgX := fun i => blk_frozen HgXw14.out i
          go_wp2_with fail
          have hps := HPw14.out.far HNgX.out HWgX.out 1 (.slice A9 (q ++ [nS (n, k)]).length c9)
          have hb9 := grown_far HBw14.out HLgX.out 1 (.slice A9 (q ++ [nS (n, k)]).length c9)
          have hk9 := blk_set HgXw14.out 1 (.slice A9 (q ++ [nS (n, k)]).length c9)
          simp only [List.setIfInBounds_toArray, List.set_cons_zero, List.set_cons_succ] at hk9
          have hkR := blk_far HgRw14.out (p := ⟨gX, 1, none⟩) HDgRgX.out (.slice A9 (q ++ [nS (n, k)]).length c9)
          have hr9 := row_far HQw14.out HgXw14.out (by decide) 1 (.slice A9 (q ++ [nS (n, k)]).length c9)
          have hmm := hps.mu
          obtain ⟨q2, hq2⟩ : ∃ q2, q ++ [nS (n, k)] = q2 := ⟨_, rfl⟩
          have hq3 : q2.length = q.length + 1 := by rw [← hq2]; simp
          have HQ2 : Aside0 ((l ++ [(n, k)]).map nS = q2) := ⟨by rw [List.map_append, HLQ.out]; exact hq2⟩
          have HLS2 : Aside0 (q2.length + mu t4 ≤ 20001) := ⟨by rw [hq3]; exact HLS.out⟩
          simp only [List.length_append, List.length_cons, List.length_nil, Nat.zero_add] at hk9 hr9 hps hb9 hkR hmm
          have AQ2 := Aside0.mk hq2
          have AQ3 := Aside0.mk hq3
          clear hq2 hq3
          have HP9 := Aside0.mk hps
          have HB9 := Aside0.mk hb9
          have HK9 := Aside0.mk hk9
          have HR9 := Aside0.mk hr9
          have HKR9 := Aside0.mk hkR
          have HMM9 := Aside0.mk hmm
          clear hps hb9 hk9 hr9 hkR hmm
          go_roundw
          case rel => exact ⟨l ++ [(n, k)], q2, t4, A9, c9, HQ2, HE2, HLS2.out, HP9, HB9, HKR9, ⟨by rw [AQ3.out]; exact HK9.out⟩, ⟨by rw [AQ3.out, ← AQ2.out]; exact HR9.out⟩⟩
          case measure => rw [HMM9.out, HM.out]; exact HMM.out
end Go.Proofs.YtbfhglaaombglaaDoor
