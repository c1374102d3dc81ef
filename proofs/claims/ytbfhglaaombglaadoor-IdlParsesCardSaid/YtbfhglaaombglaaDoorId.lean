/- Texts laid together by a program of this claim's, without the theorems that it does not use. -/
import Derived.Test.YtbfhglaaombglaaDoorIb
import Derived.Test.YtbfhglaaombglaaDoorIp
import Derived.Deep.RegionLaw
section
namespace Go.Proofs.YtbfhglaaombglaaDoor
set_option linter.unusedVariables false
set_option linter.unusedSimpArgs false
open Go.RowKit Go.Proofs.YtbfhglaaombglaaDoorW.PrintWords
/-- The reference's reading at block p: all pieces, the next one's number, whether one did not fit. -/
structure PR (w0 w : World) (p : Nat) (st : St) : Prop where
  par : ∃ A c l i, w.heap[p]? = some (.cells #[.slice A (List.length (α := Tk) l) c, .int .i64 ((i : Nat) : Int), .bool st.2] 62 (0, 0)) ∧ TkRd w0 A c l ∧ i ≤ l.length ∧ st.1 = l.drop i
  tab : Tabs w0
  bel : Below w0.heap.size w0 w
  hp : w0.heap.size ≤ p
/-- The next piece's text. -/
def txt (st : St) : ByteArray := match nxt st with | some k => k.text | none => E0
set_option maxRecDepth 100000 in
theorem text_any (w0 w : World) (p : Nat) (st : St) (H : Aside0 (PR w0 w p st)) (t : ByteArray) (ht : Aside0 (txt st = t)) :
    Calls Tryd.prog 43 #[.pointer (some ⟨p, 0, none⟩)] w fun e w' => e = .returned (.string t) ∧ Drawn0 w w' := by
  obtain ⟨rem, b⟩ := st
  obtain ⟨A, c, l, i, hk, hr, hi, hd⟩ := H.out.par
  obtain ⟨n, hn⟩ : ∃ n, l.length = n := ⟨_, rfl⟩
  rw [hn] at hk hi
  have HR := Aside0.mk hr
  have HD := Aside0.mk hd
  have HN := Aside0.mk hn
  have c0 : w.cell? ⟨p, 0, none⟩ = some (.slice A n c) := blk_cell hk 0
  have c1 : w.cell? ⟨p, 1, none⟩ = some (.int .i64 (i : Int)) := blk_cell hk 1
  have c2 : w.cell? ⟨p, 2, none⟩ = some (.bool b) := blk_cell hk 2
  have d0 : w.drew.cell? ⟨p, 0, none⟩ = some (.slice A n c) := c0
  have d1 : w.drew.cell? ⟨p, 1, none⟩ = some (.int .i64 (i : Int)) := c1
  have d2 : w.drew.cell? ⟨p, 2, none⟩ = some (.bool b) := c2
  clear hk hr hd hn
  cases b with
  | true =>
    obtain rfl : t = E0 := ht.out.symm
    go_enter Tryd.func43, Tryd.ntmps43
    go_upto_region 1 with fail
    go_quiet (fail)
    all_goals
      go_wp2
      go_ret
      exact ⟨rfl, (Drawn0.refl _).step _⟩
  | false =>
    cases rem with
    | nil =>
      obtain rfl : t = E0 := ht.out.symm
      have hin : i = n := by
        have h9 := congrArg List.length HD.out
        rw [List.length_drop, HN.out] at h9
        simp only [List.length_nil] at h9
        omega
      subst hin
      go_enter Tryd.func43, Tryd.ntmps43
      go_upto_region 1 with fail
      go_quiet (fail)
      all_goals
        go_wp2
        go_ret
        exact ⟨rfl, (Drawn0.refl _).step _⟩
    | cons k rem =>
      obtain rfl : t = k.text := ht.out.symm
      have hl : l[i]? = some k := by
        have h9 : (l.drop i)[0]? = some k := by rw [← HD.out]; rfl
        rw [List.getElem?_drop] at h9
        exact h9
      have hin : i < n := by
        have h9 := congrArg List.length HD.out
        rw [List.length_drop, HN.out] at h9
        simp only [List.length_cons] at h9
        omega
      obtain ⟨g, o, rfl, hc⟩ := HR.out.2.2.2 (by rw [HN.out]; omega)
      have hx := pw_cell_below H.out.bel (hc i k hl).2.1
      have x1 : ∀ m, (w.drewN m).cell? ⟨g, o + i * 3 + 1, none⟩ = some (.string k.text) := fun _ => hx
      have e0 : ∀ m, (w.drewN m).cell? ⟨p, 0, none⟩ = some (.slice (some ⟨g, o, none⟩) n c) := fun _ => c0
      have e1 : ∀ m, (w.drewN m).cell? ⟨p, 1, none⟩ = some (.int .i64 (i : Int)) := fun _ => c1
      have hlt : (i : Int) < (n : Int) := by omega
      clear hc hx hl
      go_enter Tryd.func43, Tryd.ntmps43
      go_upto_region 1 with fail
      go_quiet (fail)
      all_goals
        go_upto_region 3 with fail
        have f0 := e0 nq
        have f1 := e1 nq
        have f2 := x1 nq
        have HQ : Aside0 (Drawn0 w (w.drewN nq)) := ⟨(Drawn0.refl _).step _⟩
        obtain ⟨wq, hwq⟩ : ∃ x, w.drewN nq = x := ⟨_, rfl⟩
        rw [hwq] at f0 f1 f2 HQ ⊢
        clear hwq e0 e1 x1 c0 c1 c2 d0 d1 d2
        go_quiet (fail)
        all_goals
          go_wp2
          go_ret
          exact ⟨rfl, HQ.out.step _⟩
theorem PR.below {w0 w w1 : World} {p : Nat} {st : St} (h : PR w0 w p st) (hb : Below w.heap.size w w1) : PR w0 w1 p st := by
  obtain ⟨A, c, l, i, hk, hr⟩ := h.par
  exact ⟨⟨A, c, l, i, (hb.block _ (blk_lt hk)).trans hk, hr⟩, h.tab, h.bel.trans (hb.mono h.bel.size), h.hp⟩
theorem PR.ch {w0 w w1 : World} {p : Nat} {st : St} (h : PR w0 w p st) (hg : w.grownBy w1 (some p)) : Below w0.heap.size w0 w1 :=
  h.bel.grown hg h.bel.size (fun k hk => by injection hk with hk; rw [← hk]; exact h.hp)
/-- One that did not fit. -/
theorem PR.bad {w0 w : World} {p : Nat} {st : St} (h : PR w0 w p st) : PR w0 (w.setCell ⟨p, 2, none⟩ (.bool true)) p (st.1, true) ∧ w.grownBy (w.setCell ⟨p, 2, none⟩ (.bool true)) (some p) := by
  obtain ⟨A, c, l, i, hk, hr⟩ := h.par
  have hg : w.grownBy (w.setCell ⟨p, 2, none⟩ (.bool true)) (some p) := ⟨rfl, rfl, rfl, by simp, fun k _ hne => Below.heap_setCell _ _ _ _ (fun e => hne (by rw [e]))⟩
  have h9 := blk_set hk 2 (.bool true)
  simp only [List.setIfInBounds_toArray, List.set_cons_zero, List.set_cons_succ] at h9
  exact ⟨⟨⟨A, c, l, i, h9, hr⟩, h.tab, h.ch hg, h.hp⟩, hg⟩
/-- The next piece is read. -/
theorem PR.next {w0 w : World} {p : Nat} {k : Tk} {rem : List Tk} {b : Bool} (h : PR w0 w p (k :: rem, b)) : ∃ i : Nat, w.cell? ⟨p, 1, none⟩ = some (.int .i64 (i : Int)) ∧ i ≤ 20000 ∧ PR w0 (w.setCell ⟨p, 1, none⟩ (.int .i64 ((i : Int) + 1))) p (rem, b) ∧ w.grownBy (w.setCell ⟨p, 1, none⟩ (.int .i64 ((i : Int) + 1))) (some p) := by
  obtain ⟨A, c, l, i, hk, hr, hi, hd⟩ := h.par
  have hg : w.grownBy (w.setCell ⟨p, 1, none⟩ (.int .i64 ((i : Int) + 1))) (some p) := ⟨rfl, rfl, rfl, by simp, fun k _ hne => Below.heap_setCell _ _ _ _ (fun e => hne (by rw [e]))⟩
  have h9 := blk_set hk 1 (.int .i64 ((i : Int) + 1))
  simp only [List.setIfInBounds_toArray, List.set_cons_zero, List.set_cons_succ] at h9
  have hl := congrArg List.length hd
  simp only [List.length_cons, List.length_drop] at hl
  have hn := hr.1.2
  refine ⟨i, blk_cell hk 1, by omega, ⟨⟨A, c, l, i + 1, by rw [show ((i + 1 : Nat) : Int) = (i : Int) + 1 by omega]; exact h9, hr, by omega, ?_⟩, h.tab, h.ch hg, h.hp⟩, hg⟩
  have h8 := congrArg List.tail hd
  rw [List.tail_drop] at h8
  exact h8
theorem txt_teq {st : St} {s : ByteArray} (hs : teq E0 s = false) : teq (txt st) s = takesB s st := by
  unfold txt takesB
  cases nxt st with
  | none => exact hs
  | some k => rfl
set_option maxRecDepth 100000 in
theorem is_any (w0 w : World) (p : Nat) (st : St) (H : Aside0 (PR w0 w p st)) (s : ByteArray) (hs : Aside0 (teq E0 s = false)) (v : Bool) (hv : Aside0 (takesB s st = v)) :
    Calls Tryd.prog 42 #[.pointer (some ⟨p, 0, none⟩), .string s] w fun e w' => e = .returned (.bool v) ∧ Aside0 (PR w0 w' p (takesM s st)) ∧ Aside0 (w.grownBy w' (some p)) := by
  obtain ⟨t, ht⟩ : ∃ t, txt st = t := ⟨_, rfl⟩
  have hq : (t.toList == s.toList) = v := teq_walk t s v (by rw [← ht, txt_teq hs.out]; exact hv.out)
  have hq2 : (t.toList != s.toList) = !v := by rw [bne, hq]
  have HT9 := Aside0.mk ht
  clear ht
  cases v with
  | false =>
    go_enter Tryd.func42, Tryd.ntmps42
    go_wp2_with fail
    refine (text_any w0 w p st H t HT9).mono ?_
    rintro e w1 ⟨rfl, hd⟩
    have HB := Aside0.mk hd.below
    clear hd
    go_wp2_with fail
    go_ret
    refine ⟨rfl, ⟨?_⟩, ⟨below_grownBy HB.out _⟩⟩
    rw [takesM, if_neg (by rw [hv.out]; decide)]
    exact H.out.below HB.out
  | true =>
    obtain ⟨hb, hne⟩ := takes_some hv.out
    obtain ⟨l, b⟩ := st
    cases l with
    | nil => exact absurd rfl hne
    | cons k rem =>
      go_enter Tryd.func42, Tryd.ntmps42
      go_wp2_with fail
      refine (text_any w0 w p (k :: rem, b) H t HT9).mono ?_
      rintro e w1 ⟨rfl, hd⟩
      have HB := Aside0.mk hd.below
      clear hd
      have HP := H.out.below HB.out
      obtain ⟨i, c1, hi, hp1, hg1⟩ := HP.next
      obtain ⟨A9, c9, l9, i9, hk9, _⟩ := HP.par
      have hfz := blk_frozen hk9 1
      have hw64 : ¬ (9223372036854775807 < (i : Int) + 1) := by omega
      have HP1 := Aside0.mk hp1
      have HG1 := Aside0.mk hg1
      clear hp1 hg1 hk9 HP
      go_wp2_with fail
      go_ret
      refine ⟨rfl, ⟨?_⟩, ⟨(below_grownBy HB.out _).trans HG1.out⟩⟩
      rw [takesM, if_pos hv.out]
      exact HP1.out
theorem must_any (w0 w : World) (p : Nat) (st : St) (H : Aside0 (PR w0 w p st)) (s : ByteArray) (hs : Aside0 (teq E0 s = false)) :
    Calls Tryd.prog 19 #[.pointer (some ⟨p, 0, none⟩), .string s] w fun e w' => e = .returned (.tuple #[]) ∧ Aside0 (PR w0 w' p (need s st)) ∧ Aside0 (w.grownBy w' (some p)) := by
  obtain ⟨v, hv⟩ : ∃ v, takesB s st = v := ⟨_, rfl⟩
  have HV := Aside0.mk hv
  clear hv
  cases v with
  | true =>
    go_enter Tryd.func19, Tryd.ntmps19
    go_wp2_with fail
    refine (is_any w0 w p st H s hs true HV).mono ?_
    rintro e w1 ⟨rfl, HP, HG⟩
    go_wp2_with fail
    go_end0
    refine ⟨rfl, ⟨?_⟩, HG⟩
    have h9 := HP.out
    rw [takesM, if_pos HV.out] at h9
    rw [need, if_pos HV.out]
    exact h9
  | false =>
    go_enter Tryd.func19, Tryd.ntmps19
    go_wp2_with fail
    refine (is_any w0 w p st H s hs false HV).mono ?_
    rintro e w1 ⟨rfl, HP, HG⟩
    have h9 := HP.out
    rw [takesM, if_neg (by rw [HV.out]; decide)] at h9
    obtain ⟨A9, c9, l9, i9, hk9, _⟩ := h9.par
    have hfz := blk_frozen hk9 2
    have c2 : w1.cell? ⟨p, 2, none⟩ = some (.bool st.2) := blk_cell hk9 2
    obtain ⟨hp1, hg1⟩ := h9.bad
    have HP1 := Aside0.mk hp1
    have HG1 := Aside0.mk hg1
    clear h9 hp1 hg1 hk9
    go_wp2_with fail
    go_end0
    refine ⟨rfl, ⟨?_⟩, ⟨HG.out.trans HG1.out⟩⟩
    rw [need, if_neg (by rw [HV.out]; decide)]
    exact HP1.out
end Go.Proofs.YtbfhglaaombglaaDoor
end
section
namespace Go.Proofs.YtbfhglaaombglaaDoor
set_option linter.unusedVariables false
set_option linter.unusedSimpArgs false
open Go.RowKit Go.Proofs.YtbfhglaaombglaaDoorW.PrintWords
theorem name_first (t : ByteArray) (h : nameG t = true) : 1 ≤ t.size ∧ letterF (((Utf8.decode t 0).1 : Nat) : Int) = true := by
  unfold nameG at h
  cases hr : runesG t with
  | none => rw [hr] at h; cases h
  | some l =>
    rw [hr] at h
    simp only [Bool.and_eq_true, decide_eq_true_eq] at h
    obtain ⟨h1, _, _, h2⟩ := h
    rw [runesG] at hr
    by_cases h0 : 0 < t.size
    · obtain ⟨m, hm⟩ : ∃ m, t.size = m + 1 := ⟨t.size - 1, by omega⟩
      rw [hm, runesF_step t m 0 h0] at hr
      split at hr
      · cases hr
      · cases hq : runesF t m (0 + (Utf8.decode t 0).2) with
        | none => rw [hq] at hr; cases hr
        | some q =>
          rw [hq] at hr
          simp only [Option.map_some, Option.some.injEq] at hr
          subst hr
          simp only [chk, Bool.and_eq_true] at h2
          exact ⟨h0, h2.1⟩
    · rw [runesF_end t _ 0 h0] at hr
      cases hr
      simp at h1
theorem num_first (t : ByteArray) (h : (numF t).2 = true) : 1 ≤ t.size ∧ 48 ≤ bt8 t 0 ∧ bt8 t 0 ≤ 57 := by
  unfold numF at h
  split at h
  · cases h
  · rename_i hc
    have h1 : 1 ≤ t.size := by omega
    refine ⟨h1, ?_⟩
    rw [← bs_getD]
    cases hb : bs t with
    | nil => have := bs_length t; rw [hb] at this; simp at this; omega
    | cons b u =>
      rw [hb, numL] at h
      by_cases h2 : 48 ≤ b ∧ b ≤ 57
      · exact h2
      · rw [if_neg h2] at h; cases h
theorem digit_low {b : Nat} (h1 : 48 ≤ b) (h2 : b ≤ 57) : letterF (b : Int) = false ∧ signB b = false := by
  have : b = 48 ∨ b = 49 ∨ b = 50 ∨ b = 51 ∨ b = 52 ∨ b = 53 ∨ b = 54 ∨ b = 55 ∨ b = 56 ∨ b = 57 := by omega
  rcases this with rfl | rfl | rfl | rfl | rfl | rfl | rfl | rfl | rfl | rfl <;> exact ⟨by decide, by decide⟩
theorem dg_byte {u : List Nat} (h : dgF (dL u).1 = true) : 48 ≤ u.getD 0 0 ∧ u.getD 0 0 ≤ 57 := by
  have hr : 48 ≤ (dL u).1 ∧ (dL u).1 ≤ 57 := by
    simp only [dgF, digitF, inF, Bool.and_eq_true, decide_eq_true_eq] at h
    omega
  by_cases h0 : u.getD 0 0 < 128
  · rw [dL_head u h0] at hr; exact hr
  · have := decN_ge u.length (u.getD 0 0) (u.getD 1 0) (u.getD 2 0) (u.getD 3 0) h0
    rw [dL] at hr
    omega
/-- What a piece begins with, by its kind. -/
theorem step_first (u : List Nat) (k n : Nat) (h : stepL u = .inr (k + 1, n)) : (k = 0 ∧ letterF ((dL u).1 : Int) = true) ∨ (k = 1 ∧ 48 ≤ u.getD 0 0 ∧ u.getD 0 0 ≤ 57) ∨ (k = 2 ∧ signB (u.getD 0 0) = true) := by
  unfold stepL at h
  by_cases c1 : (dL u).1 = 65533 ∧ (dL u).2 < 2
  · rw [if_pos c1] at h; cases h
  · rw [if_neg c1] at h
    by_cases c2 : blankB (u.getD 0 0) = true
    · rw [if_pos c2] at h; cases h
    · rw [if_neg c2] at h
      by_cases c3 : slashB u = true
      · rw [if_pos c3] at h; cases h
      · rw [if_neg c3] at h
        by_cases c4 : letterF ((dL u).1 : Int) = true
        · rw [if_pos c4] at h; cases h; exact .inl ⟨rfl, c4⟩
        · rw [if_neg c4] at h
          by_cases c5 : dgF (dL u).1 = true
          · rw [if_pos c5] at h; cases h; exact .inr (.inl ⟨rfl, dg_byte c5⟩)
          · rw [if_neg c5] at h
            by_cases c6 : signB (u.getD 0 0) = true
            · rw [if_pos c6] at h; cases h; exact .inr (.inr ⟨rfl, c6⟩)
            · rw [if_neg c6] at h; cases h
def TkOk (t : Tk) : Prop := (nameG t.text = true → t.kind = 1) ∧ ((numF t.text).2 = true → t.kind = 2)
theorem sign_letter {b : Nat} (h : signB b = true) : letterF (b : Int) = false := by
  have : b = 123 ∨ b = 125 ∨ b = 40 ∨ b = 41 ∨ b = 59 ∨ b = 61 ∨ b = 44 := by simpa [signB] using h
  rcases this with rfl | rfl | rfl | rfl | rfl | rfl | rfl <;> decide
theorem piece_ok (s : ByteArray) (p n k : Nat) (hu : (bs s).drop p ≠ []) (h : stepL ((bs s).drop p) = .inr (k + 1, n)) : TkOk (tkOf s (k + 1, p, n)) := by
  have hb := step_bound _ hu _ _ h
  have hl : ((bs s).drop p).length = s.size - p := by rw [List.length_drop, bs_length]
  have hbt : bs (s.extract p (p + n)) = ((bs s).drop p).take n := by rw [bs_extract, show p + n - p = n by omega]
  have h0 : (((bs s).drop p).take n).getD 0 0 = ((bs s).drop p).getD 0 0 := by
    rw [List.getD_eq_getElem?_getD, List.getElem?_take_of_lt (by omega), ← List.getD_eq_getElem?_getD]
  have hsf := step_first _ k n h
  refine ⟨fun hn => ?_, fun hn => ?_⟩
  · obtain ⟨_, h2⟩ := name_first _ hn
    show k + 1 = 1
    have h3 : letterF ((dL (((bs s).drop p).take n)).1 : Int) = true := by
      have h4 : (letterF (((Utf8.decode (s.extract p (p + n)) 0).1 : Nat) : Int)) = true := h2
      rw [dec_dL, List.drop_zero, hbt] at h4
      exact h4
    rcases hsf with ⟨rfl, _⟩ | ⟨rfl, h5, h6⟩ | ⟨rfl, h5⟩
    · rfl
    · exfalso
      rw [dL_head _ (by rw [h0]; omega), h0, (digit_low h5 h6).1] at h3
      cases h3
    · exfalso
      rw [dL_head _ (by rw [h0]; exact sign_low h5), h0, sign_letter h5] at h3
      cases h3
  · obtain ⟨_, h2, h3⟩ := num_first _ hn
    show k + 1 = 2
    have h4 : bt8 (s.extract p (p + n)) 0 = ((bs s).drop p).getD 0 0 := by rw [← bs_getD, hbt, h0]
    have h2' : 48 ≤ bt8 (s.extract p (p + n)) 0 := h2
    have h3' : bt8 (s.extract p (p + n)) 0 ≤ 57 := h3
    rw [h4] at h2' h3'
    rcases hsf with ⟨rfl, h5⟩ | ⟨rfl, _⟩ | ⟨rfl, h5⟩
    · exfalso
      rw [dL_head _ (by omega), (digit_low h2' h3').1] at h5
      cases h5
    · rfl
    · exfalso
      rw [(digit_low h2' h3').2] at h5
      cases h5
theorem pieces_ok (s : ByteArray) {p q : Nat} {u v : List Nat} {l : List (Nat × Nat × Nat)} (h : Steps p u l q v) : u = (bs s).drop p → ∀ t ∈ l, TkOk (tkOf s t) := by
  induction h with
  | nil p u => intro _ t ht; cases ht
  | @blank p u n l q v hu h r ih =>
    intro e t ht
    exact ih (by rw [e, List.drop_drop]) t ht
  | @tok p u k n l q v hu h r ih =>
    intro e t ht
    rcases List.mem_cons.1 ht with rfl | ht
    · subst e; exact piece_ok s p n k hu h
    · exact ih (by rw [e, List.drop_drop]) t ht
/-- All pieces of a text are so. -/
theorem toks_ok (s : ByteArray) (L : List (Nat × Nat × Nat)) (h : toksA 0 (bs s) = (L, none)) : ∀ t ∈ L.map (tkOf s), TkOk t := by
  intro t ht
  obtain ⟨q, hq, rfl⟩ := List.mem_map.1 ht
  exact pieces_ok s ((toks_steps _ 0 (bs s) (Nat.le_refl _)).1 L h) rfl q hq
end Go.Proofs.YtbfhglaaombglaaDoor
end
section
namespace Go.Proofs.YtbfhglaaombglaaDoor
set_option linter.unusedVariables false
set_option linter.unusedSimpArgs false
open Go.RowKit Go.Proofs.YtbfhglaaombglaaDoorW.PrintWords
theorem txt_size {w0 w : World} {p : Nat} {st : St} (h : PR w0 w p st) : (txt st).size ≤ 16384 := by
  obtain ⟨A, c, l, i, _, hr, _, hd⟩ := h.par
  unfold txt
  cases hn : nxt st with
  | none => decide
  | some k =>
    obtain ⟨_, r, hr2⟩ := nxt_some hn
    refine hr.2.2.1 k ?_
    have h9 : k ∈ st.1 := by rw [hr2]; exact List.mem_cons_self
    rw [hd] at h9
    exact List.mem_of_mem_drop h9
set_option maxRecDepth 100000 in
theorem rpname_any (w0 w : World) (p : Nat) (st : St) (H : Aside0 (PR w0 w p st)) (hk : Aside0 (nameG (txt st) = nameOk st)) (n : ByteArray) (hn : Aside0 (nameV st = n)) :
    Calls Tryd.prog 20 #[.pointer (some ⟨p, 0, none⟩)] w fun e w' => e = .returned (.string n) ∧ Aside0 (PR w0 w' p (nameM st)) ∧ Aside0 (w.grownBy w' (some p)) := by
  obtain ⟨t, ht⟩ : ∃ t, txt st = t := ⟨_, rfl⟩
  have hz : t.size ≤ 2097152 := by have := txt_size H.out; rw [ht] at this; omega
  obtain ⟨v, hv⟩ : ∃ v, nameOk st = v := ⟨_, rfl⟩
  have HG : Aside0 (nameG t = v) := ⟨by rw [← ht, ← hv]; exact hk.out⟩
  have HV := Aside0.mk hv
  have HT9 := Aside0.mk ht
  clear ht hv hk
  cases v with
  | false =>
    obtain rfl : n = ⟨#[]⟩ := by rw [← hn.out, nameV, if_neg (by rw [HV.out]; decide)]; rfl
    go_enter Tryd.func20, Tryd.ntmps20
    go_wp2_with fail
    refine (text_any w0 w p st H t HT9).mono ?_
    rintro e w1 ⟨rfl, hd⟩
    have HB := Aside0.mk hd.below
    clear hd
    go_wp2_with fail
    refine (rname_any t w1 hz false HG).mono ?_
    rintro e w2 ⟨rfl, hb2⟩
    have HB2 := Aside0.mk (HB.out.trans (hb2.mono HB.out.size))
    clear hb2
    have h9 := H.out.below HB2.out
    obtain ⟨A9, c9, l9, i9, hk9, _⟩ := h9.par
    have hfz := blk_frozen hk9 2
    have c2 : w2.cell? ⟨p, 2, none⟩ = some (.bool st.2) := blk_cell hk9 2
    obtain ⟨hp1, hg1⟩ := h9.bad
    have HP1 := Aside0.mk hp1
    have HG1 := Aside0.mk hg1
    clear h9 hp1 hg1 hk9
    go_wp2_with fail
    go_ret
    refine ⟨rfl, ⟨?_⟩, ⟨(below_grownBy HB2.out _).trans HG1.out⟩⟩
    rw [nameM, if_neg (by rw [HV.out]; decide)]
    exact HP1.out
  | true =>
    obtain ⟨_, hne⟩ := name_some HV.out
    obtain ⟨l, b⟩ := st
    cases l with
    | nil => exact absurd rfl hne
    | cons k rem =>
      have hnt : Aside0 (n = t) := ⟨by
        rw [← hn.out, ← HT9.out, nameV, if_pos HV.out]
        have hb : b = false := (name_some HV.out).1
        subst hb
        rfl⟩
      go_enter Tryd.func20, Tryd.ntmps20
      go_wp2_with fail
      refine (text_any w0 w p (k :: rem, b) H t HT9).mono ?_
      rintro e w1 ⟨rfl, hd⟩
      have HB := Aside0.mk hd.below
      clear hd
      go_wp2_with fail
      refine (rname_any t w1 hz true HG).mono ?_
      rintro e w2 ⟨rfl, hb2⟩
      have HB2 := Aside0.mk (HB.out.trans (hb2.mono HB.out.size))
      clear hb2
      have HP := H.out.below HB2.out
      obtain ⟨i, c1, hi, hp1, hg1⟩ := HP.next
      obtain ⟨A9, c9, l9, i9, hk9, _⟩ := HP.par
      have hfz := blk_frozen hk9 1
      have hw64 : ¬ (9223372036854775807 < (i : Int) + 1) := by omega
      have HP1 := Aside0.mk hp1
      have HG1 := Aside0.mk hg1
      clear hp1 hg1 hk9 HP
      go_wp2_with fail
      go_ret
      refine ⟨by rw [hnt.out]; rfl, ⟨?_⟩, ⟨(below_grownBy HB2.out _).trans HG1.out⟩⟩
      rw [nameM, if_pos HV.out]
      exact HP1.out
set_option maxRecDepth 100000 in
theorem rpnumber_any (w0 w : World) (p : Nat) (st : St) (H : Aside0 (PR w0 w p st)) (hk : Aside0 ((numF (txt st)).2 = numOk st)) (n : Nat) (hn : Aside0 (numV st = n)) :
    Calls Tryd.prog 46 #[.pointer (some ⟨p, 0, none⟩)] w fun e w' => e = .returned (.int .i64 (n : Int)) ∧ Aside0 (PR w0 w' p (numM st)) ∧ Aside0 (w.grownBy w' (some p)) := by
  obtain ⟨t, ht⟩ : ∃ t, txt st = t := ⟨_, rfl⟩
  have hz : t.size ≤ 4611686018427387904 := by have := txt_size H.out; rw [ht] at this; omega
  obtain ⟨v, hv⟩ : ∃ v, numOk st = v := ⟨_, rfl⟩
  obtain ⟨m, v2, hm⟩ : ∃ m v2, numF t = (m, v2) := ⟨_, _, rfl⟩
  obtain rfl : v2 = v := by
    have h9 := hk.out
    rw [ht, hm, hv] at h9
    exact h9
  have HG := Aside0.mk hm
  have HV := Aside0.mk hv
  have HT9 := Aside0.mk ht
  clear ht hv hk hm
  cases v2 with
  | false =>
    obtain rfl : n = 0 := by rw [← hn.out, numV, if_neg (by rw [HV.out]; decide)]
    go_enter Tryd.func46, Tryd.ntmps46
    go_wp2_with fail
    refine (text_any w0 w p st H t HT9).mono ?_
    rintro e w1 ⟨rfl, hd⟩
    have HB2 := Aside0.mk hd.below
    clear hd
    go_wp2_with fail
    refine (rnumber_any t w1 hz m false HG).mono ?_
    rintro e w2 ⟨rfl, rfl⟩
    have h9 := H.out.below HB2.out
    obtain ⟨A9, c9, l9, i9, hk9, _⟩ := h9.par
    have hfz := blk_frozen hk9 2
    have c2 : w1.cell? ⟨p, 2, none⟩ = some (.bool st.2) := blk_cell hk9 2
    obtain ⟨hp1, hg1⟩ := h9.bad
    have HP1 := Aside0.mk hp1
    have HG1 := Aside0.mk hg1
    clear h9 hp1 hg1 hk9
    go_wp2_with fail
    go_ret
    refine ⟨rfl, ⟨?_⟩, ⟨(below_grownBy HB2.out _).trans HG1.out⟩⟩
    rw [numM, if_neg (by rw [HV.out]; decide)]
    exact HP1.out
  | true =>
    obtain ⟨_, hne⟩ := num_some HV.out
    obtain ⟨l, b⟩ := st
    cases l with
    | nil => exact absurd rfl hne
    | cons k rem =>
      have hnt : Aside0 (n = m) := ⟨by
        rw [← hn.out, numV, if_pos HV.out]
        have hb : b = false := (num_some HV.out).1
        subst hb
        have h9 := HT9.out
        rw [show hdText (k :: rem, false) = t from h9, HG.out]⟩
      go_enter Tryd.func46, Tryd.ntmps46
      go_wp2_with fail
      refine (text_any w0 w p (k :: rem, b) H t HT9).mono ?_
      rintro e w1 ⟨rfl, hd⟩
      have HB2 := Aside0.mk hd.below
      clear hd
      go_wp2_with fail
      refine (rnumber_any t w1 hz m true HG).mono ?_
      rintro e w2 ⟨rfl, rfl⟩
      have HP := H.out.below HB2.out
      obtain ⟨i, c1, hi, hp1, hg1⟩ := HP.next
      obtain ⟨A9, c9, l9, i9, hk9, _⟩ := HP.par
      have hfz := blk_frozen hk9 1
      have hw64 : ¬ (9223372036854775807 < (i : Int) + 1) := by omega
      have HP1 := Aside0.mk hp1
      have HG1 := Aside0.mk hg1
      clear hp1 hg1 hk9 HP
      go_wp2_with fail
      go_ret
      refine ⟨by rw [hnt.out]; rfl, ⟨?_⟩, ⟨(below_grownBy HB2.out _).trans HG1.out⟩⟩
      rw [numM, if_pos HV.out]
      exact HP1.out
/-- What the reference asks of a text is what the parser asks of a piece. -/
theorem name_txt {st : St} (h : ∀ t ∈ st.1, TkOk t) : nameG (txt st) = nameOk st := by
  unfold txt nameOk
  cases hn : nxt st with
  | none =>
    have h9 : nameG E0 = false := by decide +kernel
    exact h9
  | some k =>
    obtain ⟨_, l, hl⟩ := nxt_some hn
    have hk := h k (by rw [hl]; exact List.mem_cons_self)
    simp only
    cases hg : nameG k.text with
    | false => rw [Bool.and_false]
    | true => rw [hk.1 hg]; rfl
theorem num_txt {st : St} (h : ∀ t ∈ st.1, TkOk t) : (numF (txt st)).2 = numOk st := by
  unfold txt numOk
  cases hn : nxt st with
  | none =>
    have h9 : (numF E0).2 = false := by decide +kernel
    exact h9
  | some k =>
    obtain ⟨_, l, hl⟩ := nxt_some hn
    have hk := h k (by rw [hl]; exact List.mem_cons_self)
    simp only
    cases hg : (numF k.text).2 with
    | false => rw [Bool.and_false]
    | true => rw [hk.2 hg]; rfl
end Go.Proofs.YtbfhglaaombglaaDoor
end
section
namespace Go.Proofs.YtbfhglaaombglaaDoor
set_option linter.unusedVariables false
set_option linter.unusedSimpArgs false
open Go.RowKit Go.Proofs.YtbfhglaaombglaaDoorW.PrintWords Go.Proofs.YtbfhglaaombglaaDoor.PIdlParses
theorem word_txt (st : St) (w : ByteArray) (hw : teq E0 w = false) : (w.toList = (txt st).toList) ↔ takesB w st = true := by
  have h9 := teq_walk (txt st) w (takesB w st) (txt_teq hw)
  rw [← h9, beq_iff_eq]
  exact ⟨Eq.symm, Eq.symm⟩
theorem scalar_val (st : St) : concordatref06_scalar.f 7 (txt st) = some (scal st : Int) := by
  have e1 := word_txt st w_int32 (by decide)
  have e2 := word_txt st w_int64 (by decide)
  have e3 := word_txt st w_bool (by decide)
  have e4 := word_txt st w_text (by decide)
  have e5 := word_txt st w_bytes (by decide)
  have a1 : wrap64 (1 + 1) = 2 := by unfold wrap64; omega
  have a2 : wrap64 (2 + 1) = 3 := by unfold wrap64; omega
  have a3 : wrap64 (3 + 1) = 4 := by unfold wrap64; omega
  have a4 : wrap64 (4 + 1) = 5 := by unfold wrap64; omega
  have a5 : wrap64 (5 + 1) = 6 := by unfold wrap64; omega
  unfold concordatref06_scalar.f scal
  obtain ⟨l, hl⟩ : ∃ l : List ByteArray, l = [(⟨#[]⟩ : ByteArray), w_int32, w_int64, w_bool, w_text, w_bytes] := ⟨_, rfl⟩
  show concordatref06_scalar.l0 7 (txt st) [(⟨#[]⟩ : ByteArray), w_int32, w_int64, w_bool, w_text, w_bytes] 1 = _
  rw [← hl]
  have hlen : (l.length : Int) = 6 := by rw [hl]; rfl
  have r1 : rdOf ByteArray.empty l 1 = w_int32 := by rw [hl]; rfl
  have r2 : rdOf ByteArray.empty l 2 = w_int64 := by rw [hl]; rfl
  have r3 : rdOf ByteArray.empty l 3 = w_bool := by rw [hl]; rfl
  have r4 : rdOf ByteArray.empty l 4 = w_text := by rw [hl]; rfl
  have r5 : rdOf ByteArray.empty l 5 = w_bytes := by rw [hl]; rfl
  simp only [concordatref06_scalar.l0, hlen, a1, a2, a3, a4, a5, r1, r2, r3, r4, r5, e1, e2, e3, e4, e5]
  cases takesB w_int32 st <;> cases takesB w_int64 st <;> cases takesB w_bool st <;> cases takesB w_text st <;> cases takesB w_bytes st <;> rfl
end Go.Proofs.YtbfhglaaombglaaDoor
end
section
namespace Go.Proofs.YtbfhglaaombglaaDoor
set_option linter.unusedVariables false
set_option linter.unusedSimpArgs false
open Go.RowKit Go.ChangeMaps Go.Proofs.YtbfhglaaombglaaDoorW.PrintWords Go.Proofs.YtbfhglaaombglaaDoorW.PrintMore Go.Proofs.YtbfhglaaombglaaDoor.PIdlParses
theorem PR.lt {w0 w : World} {p : Nat} {st : St} (h : PR w0 w p st) : p < w.heap.size := by
  obtain ⟨A, c, l, i, hb, _⟩ := h.par
  exact blk_lt hb
theorem PR.far {w0 w : World} {p : Nat} {st : St} (h : PR w0 w p st) {g : Nat} (hg : g ≠ p) (hl : w0.heap.size ≤ g) (j : Nat) (u : Value) : PR w0 (w.setCell ⟨g, j, none⟩ u) p st := by
  obtain ⟨A, c, l, i, hk, hr⟩ := h.par
  exact ⟨⟨A, c, l, i, (Below.heap_setCell _ _ _ _ (fun e => hg e.symm)).trans hk, hr⟩, h.tab, h.bel.setCell (p := ⟨g, j, none⟩) hl u, h.hp⟩
theorem PR.other {w0 w w1 : World} {p : Nat} {st : St} (h : PR w0 w p st) {row : Option Nat} (hg : w.grownBy w1 row) (hn : some p ≠ row) (hl : ∀ k, row = some k → w0.heap.size ≤ k) : PR w0 w1 p st := by
  obtain ⟨A, c, l, i, hk, hr⟩ := h.par
  exact ⟨⟨A, c, l, i, (hg.block p (blk_lt hk) hn).trans hk, hr⟩, h.tab, h.bel.grown hg h.bel.size hl, h.hp⟩
theorem PR.len {w0 w : World} {p : Nat} {st : St} (h : PR w0 w p st) : st.1.length ≤ 20000 := by
  obtain ⟨A, c, l, i, _, hr, _, hd⟩ := h.par
  rw [hd, List.length_drop]
  have := hr.1.2
  omega
theorem PR.typ {w0 w : World} {p : Nat} {st : St} (h : PR w0 w p st) : ∃ cells, w.heap[p]? = some (.cells cells 62 (0, 0)) := by
  obtain ⟨A, c, l, i, hk, _⟩ := h.par
  exact ⟨_, hk⟩
theorem rapp_frame {α : Type} {d : Kd α} {w0 w W w1 : World} {p : Nat} {s : St} {e : TypeId} {v : Value} {xs : List α} {ok : Nat → Prop} (HP : PR w0 W p s) (HB : w.grownBy W (some p)) (hw : w0.heap.size ≤ w.heap.size)
    (hv : d.R e W w.heap.size ok v xs) (he : e ≠ 62) (hg : W.grownBy w1 v.ownBlock) : PR w0 w1 p s ∧ w.grownBy w1 (some p) := by
  have hb : ∀ k, v.ownBlock = some k → w.heap.size ≤ k := fun k hk => by
    obtain ⟨inner, ho⟩ := Kd.R_own hv
    exact own_base ho k hk
  obtain ⟨u, hk⟩ := HP.typ
  refine ⟨HP.other hg (Kd.R_ne hv hk he) (fun k hk => Nat.le_trans hw (hb k hk)), ?_⟩
  refine ⟨hg.os.trans HB.os, hg.tape.trans HB.tape, hg.output.trans HB.output, Nat.le_trans HB.size hg.size, fun k hk hne => ?_⟩
  exact (hg.block k (Nat.lt_of_lt_of_le hk HB.size) (fun e => by have := hb k e.symm; omega)).trans (HB.block k hk hne)
theorem rrow_call {α : Type} {d : Kd α} {e : TypeId} {w0 W w1 : World} {base p : Nat} {ok : Nat → Prop} {s : St} {v : Value} {xs : List α} (h : d.R e W base ok v xs) (HP : PR w0 W p s) (ht : ∀ q, q ∈ e :: d.E → q ≠ 62) (hg : W.grownBy w1 (some p)) : d.R e w1 base ok v xs := by
  obtain ⟨u, hk⟩ := HP.typ
  exact Kd.R_mono (Kd.R_step (Kd.R_types h hk ht) (fun k hk hl => hg.block k hl (fun e => hk.2 (Option.some.inj e)))) (fun _ hk => hk.1)
end Go.Proofs.YtbfhglaaombglaaDoor
end
section
namespace Go.Proofs.YtbfhglaaombglaaDoor
set_option linter.unusedVariables false
set_option linter.unusedSimpArgs false
open Go.RowKit Go.ChangeMaps Go.Proofs.YtbfhglaaombglaaDoorW.PrintWords Go.Proofs.YtbfhglaaombglaaDoorW.PrintMore Go.Proofs.YtbfhglaaombglaaDoor.PIdlParses
/-- Each piece that is left is what its text is. -/
def StO (s : St) : Prop := ∀ t ∈ s.1, TkOk t
theorem StO.tail {s : St} (h : StO s) (b : Bool) : StO (s.1.tail, b) := fun t ht => h t (List.mem_of_mem_tail ht)
theorem StO.need {s : St} (h : StO s) (t : ByteArray) : StO (need t s) := by
  unfold Go.Proofs.YtbfhglaaombglaaDoor.need; split
  · exact h.tail _
  · exact h
theorem StO.name {s : St} (h : StO s) : StO (nameM s) := by
  unfold nameM; split
  · exact h.tail _
  · exact h
theorem StO.num {s : St} (h : StO s) : StO (numM s) := by
  unfold numM; split
  · exact h.tail _
  · exact h
structure PQ (w0 w : World) (p : Nat) (st : St) : Prop where
  pr : PR w0 w p st
  ok : StO st
theorem PQ.lt {w0 w : World} {p : Nat} {st : St} (h : PQ w0 w p st) : p < w.heap.size := h.pr.lt
theorem PQ.bel {w0 w : World} {p : Nat} {st : St} (h : PQ w0 w p st) : Below w0.heap.size w0 w := h.pr.bel
theorem PQ.len {w0 w : World} {p : Nat} {st : St} (h : PQ w0 w p st) : st.1.length ≤ 20000 := h.pr.len
theorem PQ.below {w0 w w1 : World} {p : Nat} {st : St} (h : PQ w0 w p st) (hb : Below w.heap.size w w1) : PQ w0 w1 p st := ⟨h.pr.below hb, h.ok⟩
theorem PQ.far {w0 w : World} {p : Nat} {st : St} (h : PQ w0 w p st) {g : Nat} (hg : g ≠ p) (hl : w0.heap.size ≤ g) (j : Nat) (u : Value) : PQ w0 (w.setCell ⟨g, j, none⟩ u) p st := ⟨h.pr.far hg hl j u, h.ok⟩
theorem PQ.bad9 {w0 w : World} {p : Nat} {st : St} (h : PQ w0 w p st) : ∃ u v, w.heap[p]? = some (.cells #[u, v, .bool st.2] 62 (0, 0)) := by
  obtain ⟨A, c, l, i, hk, _⟩ := h.pr.par
  exact ⟨_, _, hk⟩
/-- How much is left to be done, out of memory. -/
def muR (w : World) (p : Nat) : Nat := match w.cell? ⟨p, 0, none⟩, w.cell? ⟨p, 1, none⟩, w.cell? ⟨p, 2, none⟩ with
  | some (.slice _ n _), some (.int _ i), some (.bool b) => if b then 0 else n - i.toNat + 1
  | _, _, _ => 0
theorem PQ.mu {w0 w : World} {p : Nat} {st : St} (h : PQ w0 w p st) : muR w p = mu st := by
  obtain ⟨A, c, l, i, hk, _, _, hd⟩ := h.pr.par
  have c0 : w.cell? ⟨p, 0, none⟩ = some (.slice A l.length c) := blk_cell hk 0
  have c1 : w.cell? ⟨p, 1, none⟩ = some (.int .i64 (i : Int)) := blk_cell hk 1
  have c2 : w.cell? ⟨p, 2, none⟩ = some (.bool st.2) := blk_cell hk 2
  rw [muR, c0, c1, c2, Go.Proofs.YtbfhglaaombglaaDoor.mu, hd, List.length_drop]
  show (if st.2 then 0 else l.length - ((i : Nat) : Int).toNat + 1) = _
  rw [Int.toNat_natCast]
theorem qapp_frame {α : Type} {d : Kd α} {w0 w W w1 : World} {p : Nat} {s : St} {e : TypeId} {v : Value} {xs : List α} {ok : Nat → Prop} (HP : PQ w0 W p s) (HB : w.grownBy W (some p)) (hw : w0.heap.size ≤ w.heap.size)
    (hv : d.R e W w.heap.size ok v xs) (he : e ≠ 62) (hg : W.grownBy w1 v.ownBlock) : PQ w0 w1 p s ∧ w.grownBy w1 (some p) := by
  obtain ⟨h1, h2⟩ := rapp_frame HP.pr HB hw hv he hg
  exact ⟨⟨h1, HP.ok⟩, h2⟩
theorem qrow_call {α : Type} {d : Kd α} {e : TypeId} {w0 W w1 : World} {base p : Nat} {ok : Nat → Prop} {s : St} {v : Value} {xs : List α} (h : d.R e W base ok v xs) (HP : PQ w0 W p s) (ht : ∀ q, q ∈ e :: d.E → q ≠ 62) (hg : W.grownBy w1 (some p)) : d.R e w1 base ok v xs := rrow_call h HP.pr ht hg
theorem qis_no (w0 w : World) (p : Nat) (st : St) (H : Aside0 (PQ w0 w p st)) (s : ByteArray) (hs : Aside0 (teq E0 s = false)) (hv : Aside0 (takesB s st = false)) :
    Calls Tryd.prog 42 #[.pointer (some ⟨p, 0, none⟩), .string s] w fun e w' => e = .returned (.bool false) ∧ Aside0 (PQ w0 w' p st) ∧ Aside0 (w.grownBy w' (some p)) := by
  refine (is_any w0 w p st ⟨H.out.pr⟩ s hs false hv).mono ?_
  rintro e w' ⟨rfl, h1, h2⟩
  rw [takesM, if_neg (by rw [hv.out]; decide)] at h1
  exact ⟨rfl, ⟨⟨h1.out, H.out.ok⟩⟩, h2⟩
theorem qis_yes (w0 w : World) (p : Nat) (st : St) (H : Aside0 (PQ w0 w p st)) (s : ByteArray) (hs : Aside0 (teq E0 s = false)) (hv : Aside0 (takesB s st = true)) (s2 : St) (hq : Aside0 ((st.1.tail, st.2) = s2)) :
    Calls Tryd.prog 42 #[.pointer (some ⟨p, 0, none⟩), .string s] w fun e w' => e = .returned (.bool true) ∧ Aside0 (PQ w0 w' p s2) ∧ Aside0 (w.grownBy w' (some p)) := by
  refine (is_any w0 w p st ⟨H.out.pr⟩ s hs true hv).mono ?_
  rintro e w' ⟨rfl, h1, h2⟩
  rw [takesM, if_pos hv.out, hq.out] at h1
  exact ⟨rfl, ⟨⟨h1.out, by rw [← hq.out]; exact H.out.ok.tail _⟩⟩, h2⟩
theorem qmust (w0 w : World) (p : Nat) (st : St) (H : Aside0 (PQ w0 w p st)) (s : ByteArray) (hs : Aside0 (teq E0 s = false)) (s2 : St) (hq : Aside0 (need s st = s2)) :
    Calls Tryd.prog 19 #[.pointer (some ⟨p, 0, none⟩), .string s] w fun e w' => e = .returned (.tuple #[]) ∧ Aside0 (PQ w0 w' p s2) ∧ Aside0 (w.grownBy w' (some p)) := by
  refine (must_any w0 w p st ⟨H.out.pr⟩ s hs).mono ?_
  rintro e w' ⟨rfl, h1, h2⟩
  rw [hq.out] at h1
  exact ⟨rfl, ⟨⟨h1.out, by rw [← hq.out]; exact H.out.ok.need _⟩⟩, h2⟩
theorem qname (w0 w : World) (p : Nat) (st : St) (H : Aside0 (PQ w0 w p st)) (n : ByteArray) (hn : Aside0 (nameV st = n)) (s2 : St) (hq : Aside0 (nameM st = s2)) :
    Calls Tryd.prog 20 #[.pointer (some ⟨p, 0, none⟩)] w fun e w' => e = .returned (.string n) ∧ Aside0 (PQ w0 w' p s2) ∧ Aside0 (w.grownBy w' (some p)) := by
  refine (rpname_any w0 w p st ⟨H.out.pr⟩ ⟨name_txt H.out.ok⟩ n hn).mono ?_
  rintro e w' ⟨rfl, h1, h2⟩
  rw [hq.out] at h1
  exact ⟨rfl, ⟨⟨h1.out, by rw [← hq.out]; exact H.out.ok.name⟩⟩, h2⟩
theorem qnum (w0 w : World) (p : Nat) (st : St) (H : Aside0 (PQ w0 w p st)) (n : Nat) (hn : Aside0 (numV st = n)) (s2 : St) (hq : Aside0 (numM st = s2)) :
    Calls Tryd.prog 46 #[.pointer (some ⟨p, 0, none⟩)] w fun e w' => e = .returned (.int .i64 (n : Int)) ∧ Aside0 (PQ w0 w' p s2) ∧ Aside0 (w.grownBy w' (some p)) := by
  refine (rpnumber_any w0 w p st ⟨H.out.pr⟩ ⟨num_txt H.out.ok⟩ n hn).mono ?_
  rintro e w' ⟨rfl, h1, h2⟩
  rw [hq.out] at h1
  exact ⟨rfl, ⟨⟨h1.out, by rw [← hq.out]; exact H.out.ok.num⟩⟩, h2⟩
theorem qtext (w0 w : World) (p : Nat) (st : St) (H : Aside0 (PQ w0 w p st)) (t : ByteArray) (ht : Aside0 (txt st = t)) :
    Calls Tryd.prog 43 #[.pointer (some ⟨p, 0, none⟩)] w fun e w' => e = .returned (.string t) ∧ Aside0 (PQ w0 w' p st) ∧ Aside0 (w.grownBy w' (some p)) := by
  refine (text_any w0 w p st ⟨H.out.pr⟩ t ht).mono ?_
  rintro e w' ⟨rfl, h1⟩
  exact ⟨rfl, ⟨H.out.below h1.below⟩, ⟨below_grownBy h1.below _⟩⟩
theorem qscal (w0 w : World) (p : Nat) (st : St) (H : Aside0 (PQ w0 w p st)) (t : ByteArray) (ht : Aside0 (txt st = t)) (k : Nat) (hk : Aside0 (scal st = k)) :
    Calls Tryd.prog 59 #[.string t] w fun e w' => e = .returned (.int .i64 (k : Int)) ∧ Aside0 (PQ w0 w' p st) ∧ Aside0 (w.grownBy w' (some p)) := by
  refine (concordatref06_scalar.calls 7 t (k : Int) w (by rw [← ht.out, ← hk.out]; exact scalar_val st)).mono ?_
  rintro e w' ⟨rfl, h1⟩
  exact ⟨rfl, ⟨H.out.below h1⟩, ⟨below_grownBy h1 _⟩⟩
/-- The next piece is read: its number is one more. -/
theorem PQ.next {w0 w : World} {p : Nat} {st : St} (h : PQ w0 w p st) (hne : st.1 ≠ []) : ∃ i : Nat, w.cell? ⟨p, 1, none⟩ = some (.int .i64 (i : Int)) ∧ i ≤ 20000 ∧ PQ w0 (w.setCell ⟨p, 1, none⟩ (.int .i64 ((i : Int) + 1))) p (st.1.tail, st.2) ∧ w.grownBy (w.setCell ⟨p, 1, none⟩ (.int .i64 ((i : Int) + 1))) (some p) := by
  obtain ⟨l, b⟩ := st
  cases l with
  | nil => exact absurd rfl hne
  | cons k rem =>
    obtain ⟨i, h1, h2, h3, h4⟩ := h.pr.next
    exact ⟨i, h1, h2, ⟨h3, h.ok.tail _⟩, h4⟩
end Go.Proofs.YtbfhglaaombglaaDoor
end
section
namespace Go.Proofs.YtbfhglaaombglaaDoor
set_option linter.unusedVariables false
set_option linter.unusedSimpArgs false
open Go.RowKit Go.Proofs.YtbfhglaaombglaaDoorW.PrintWords Go.Proofs.YtbfhglaaombglaaDoor.PIdlParses
/-- A field, as the reference keeps it: its kind 0 where its type is a name. -/
def rS (f : Fd) : S43 := ⟨f.name, (f.tag : Int), (f.label : Int), ⟨(f.kind : Int), f.tname⟩⟩
/-- One round of a message's loop. -/
def memS (f : List Fd) (r : List Nat) (st : St) : List Fd × List Nat × St :=
  if takesB w_reserved st then
    let s1 := takesM w_reserved st
    let q := resA (r ++ [numV s1]) (numM s1)
    (f, q.1, need c_semi q.2)
  else (f ++ [fieldV st], r, fieldM st)
set_option maxRecDepth 100000 in
set_option maxHeartbeats 8000000 in
theorem member_any (w0 w wo : World) (p gX : Nat) (st0 st : St) (H : Aside0 (PQ w0 w p st0)) (HPwo : Aside0 (PQ w0 wo p st)) (HBwo : Aside0 (w.grownBy wo (some p))) (HLgX : Aside0 (w.heap.size ≤ gX)) (HNgX : Aside0 (gX ≠ p)) (nm : ByteArray) (A : Option Addr) (c : Nat) (Ar : Option Addr) (cr : Nat) (q : List S43) (ri : List Int)
    (HgXwo : Aside0 (wo.heap[gX]? = some (.cells #[.string nm, .slice A q.length c, .slice Ar ri.length cr] 45 (0, 0)))) (HFwo : Aside0 (k43.R 43 wo w.heap.size (fun _ => True) (.slice A q.length c) (q))) (HNwo : Aside0 ((Kd.int .i64).R 3 wo w.heap.size (fun _ => True) (.slice Ar ri.length cr) (ri))) (f : List Fd) (r : List Nat) (HFQ : Aside0 (f.map rS = q)) (HRQ : Aside0 (nums_ r = ri)) (hls : q.length + mu st ≤ 20001) (hlr : ri.length + mu st ≤ 20001) (F2 : List Fd) (R2 : List Nat) (S2 : St) (HE : Aside0 (memS f r st = (F2, R2, S2))) :
    Calls Tryd.prog 45 #[.pointer (some ⟨p, 0, none⟩), .pointer (some ⟨gX, 0, none⟩)] wo fun e w' => ∃ A c Ar cr, e = .returned (.tuple #[]) ∧ Aside0 (PQ w0 w' p S2) ∧ Aside0 (w.grownBy w' (some p)) ∧ Aside0 (w'.heap[gX]? = some (.cells #[.string nm, .slice A (F2.map rS).length c, .slice Ar (nums_ R2).length cr] 45 (0, 0))) ∧ Aside0 (k43.R 43 w' w.heap.size (fun _ => True) (.slice A (F2.map rS).length c) (F2.map rS)) ∧ Aside0 ((Kd.int .i64).R 3 w' w.heap.size (fun _ => True) (.slice Ar (nums_ R2).length cr) (nums_ R2)) := by
  have HWgX : Aside0 (w0.heap.size ≤ gX) := ⟨Nat.le_trans H.out.bel.size HLgX.out⟩
  go_enter Tryd.func45, Tryd.ntmps45
  cases hre : takesB w_reserved st with
  | true =>
    have HRE := Aside0.mk hre
    have hm1 := mu_takes hre
    have hm2 := mu_num (takesM w_reserved st)
    have hE2 := HE.out
    rw [memS, if_pos hre] at hE2
    simp only at hE2
    obtain ⟨t1, ht1⟩ : ∃ x, takesM w_reserved st = x := ⟨_, rfl⟩
    obtain ⟨t2, ht2⟩ : ∃ x, numM t1 = x := ⟨_, rfl⟩
    obtain ⟨k, hk⟩ : ∃ x, numV t1 = x := ⟨_, rfl⟩
    rw [ht1] at hm1 hm2 hE2
    rw [ht2] at hm2 hE2
    rw [hk] at hE2
    obtain ⟨R2, T2, hres⟩ : ∃ a b, resA (r ++ [k]) t2 = (a, b) := ⟨_, _, rfl⟩
    rw [hres] at hE2
    simp only at hE2
    obtain ⟨t9, ht9⟩ : ∃ x, need c_semi T2 = x := ⟨_, rfl⟩
    rw [ht9] at hE2
    obtain ⟨rfl, hE3⟩ := Prod.mk.inj hE2
    obtain ⟨rfl, rfl⟩ := Prod.mk.inj hE3
    have HT1 : Aside0 ((st.1.tail, st.2) = t1) := ⟨by rw [← ht1, takesM, if_pos hre]⟩
    have hr8 : ri.length + 1 + mu t2 ≤ 20001 := by omega
    have hr7 : ri.length ≤ 20001 := by omega
    have At2 := Aside0.mk ht2
    have Ak := Aside0.mk hk
    have At9 := Aside0.mk ht9
    have HRES := Aside0.mk hres
    clear hm1 hm2 ht1 ht2 hk hres ht9 hre hE2 hE3 HE
    go_wp2_with fail
    refine (qis_yes w0 wo p st HPwo w_reserved ⟨by decide⟩ HRE t1 HT1).mono ?_
    rintro e w1 ⟨rfl, HPw1, hb9⟩
    have HBw1 := Aside0.mk (HBwo.out.trans hb9.out)
    have HgXw1 := Aside0.mk (grown_block hb9.out HgXwo.out HNgX.out)
    have HFw1 := Aside0.mk (qrow_call HFwo.out HPwo.out (by decide) hb9.out)
    have HNw1 := Aside0.mk (qrow_call HNwo.out HPwo.out (by decide) hb9.out)
    clear hb9 HPwo HBwo HgXwo HFwo HNwo
    go_upto_region 1 with fail
    have HPd := Aside0.mk (HPw1.out.below (Below.refl w1.heap.size w1).drew)
    have HBd := Aside0.mk (HBw1.out.trans (below_grownBy (Below.refl w1.heap.size w1).drew (some p)))
    have HFd := Aside0.mk (Kd.R_below HFw1.out (Below.refl w1.heap.size w1).drew)
    have HNd := Aside0.mk (Kd.R_below HNw1.out (Below.refl w1.heap.size w1).drew)
    have kd9 : w1.drew.cell? ⟨gX, 2, none⟩ = some (.slice Ar ri.length cr) := blk_cell HgXw1.out 2
    go_cut [] (fun wd => ∃ A9 c9, Aside0 (PQ w0 wd p t2) ∧ Aside0 (w.grownBy wd (some p)) ∧ Aside0 (wd.heap[gX]? = some (.cells #[.string nm, .slice A q.length c, .slice A9 (ri.length + 1) c9] 45 (0, 0))) ∧ Aside0 (k43.R 43 wd w.heap.size (fun _ => True) (.slice A q.length c) (q)) ∧ Aside0 ((Kd.int .i64).R 3 wd w.heap.size (fun _ => True) (.slice A9 (ri.length + 1) c9) ((ri ++ [(k : Int)]))))
    case first =>
      go_region_law
        (first
          | (go_simp; go_at_call 46; refine (qnum w0 _ p t1 HPd k Ak t2 At2).mono ?_; rintro e w2 ⟨rfl, hp2, hb2⟩; have HP2 := hp2; have HB2 := Aside0.mk (HBd.out.trans hb2.out); have HgX2 := Aside0.mk (grown_block hb2.out (show w1.drew.heap[gX]? = _ from HgXw1.out) HNgX.out); have HF2 := Aside0.mk (qrow_call HFd.out HPd.out (by decide) hb2.out); have HN2 := Aside0.mk (qrow_call HNd.out HPd.out (by decide) hb2.out); have k29 : w2.cell? ⟨gX, 2, none⟩ = some (.slice Ar ri.length cr) := blk_cell HgX2.out 2; clear hp2 hb2; have k2A : (w2.alloc (.cells #[.int .i64 (k : Int)] 3)).cell? ⟨gX, 2, none⟩ = some (.slice Ar ri.length cr) := pw_cell_below ((Below.refl w2.heap.size w2).alloc (Nat.le_refl _) _) k29; go_simp)
          | (refine Kd.R_append_step (Kd.int .i64) (w0 := w2) (W := w2) w.heap.size rfl (.tmp 11) (.tmp 14) 35 3 (.int .i64 0) 8 rfl Tryd.underlying35 infoInt rfl (by decide) (by decide) (.slice Ar ri.length cr) (ri) ((k : Int)) [.int .i64 (k : Int)] (fun _ => True) (fun _ => False) rfl rfl rfl (fun _ h => h.elim) (fun _ _ => trivial) HN2.out (Below.refl _ _) HB2.out.size (by omega) ?_; intro v5 w5 hr5 hb5 hg5 hat5; obtain ⟨A9, c9, rfl⟩ := Kd.R_slice hr5; obtain ⟨hp9, hf9⟩ := qapp_frame HP2.out HB2.out H.out.bel.size HN2.out (by decide) hg5; have HP5 := Aside0.mk hp9; have HB5 := Aside0.mk hf9; have HgX5 := Aside0.mk (blk_grown HgX2.out hg5 (Kd.R_ne HN2.out HgX2.out (by decide))); have HF5 := Aside0.mk (row_other HF2.out HN2.out (by decide) hg5); have HN5 := Aside0.mk hr5; have k59 : w5.cell? ⟨gX, 2, none⟩ = some (.slice Ar ri.length cr) := blk_cell HgX5.out 2; have z59 := blk_frozen HgX5.out 2; clear hr5 hb5 hg5 hat5 hp9 hf9; go_simp))
      all_goals
        go_wp2_with fail
        go_meet
        case rel =>
          have hps := HP5.out.far HNgX.out HWgX.out 2 (.slice A9 (ri ++ [(k : Int)]).length c9)
          have hb9 := grown_far HB5.out HLgX.out 2 (.slice A9 (ri ++ [(k : Int)]).length c9)
          have hk9 := blk_set HgX5.out 2 (.slice A9 (ri ++ [(k : Int)]).length c9)
          simp only [List.setIfInBounds_toArray, List.set_cons_zero, List.set_cons_succ] at hk9
          have hr9 := row_far HN5.out HgX5.out (by decide) 2 (.slice A9 (ri ++ [(k : Int)]).length c9)
          have ho9 := row_far HF5.out HgX5.out (by decide) 2 (.slice A9 (ri ++ [(k : Int)]).length c9)
          simp only [List.length_append, List.length_cons, List.length_nil, Nat.zero_add] at hk9 hr9 hps hb9 ho9
          exact ⟨A9, c9, ⟨hps⟩, ⟨hb9⟩, ⟨hk9⟩, ⟨ho9⟩, ⟨hr9⟩⟩
    case rest =>
      obtain ⟨w2, hw9⟩ : ∃ x, x = wc := ⟨_, rfl⟩
      subst hw9
      obtain ⟨A9, c9, HPw2, HBw2, HgXw2, HFw2, HNw2⟩ := hcut
      clear kd9 HPd HBd HFd HNd HPw1 HBw1 HgXw1 HFw1 HNw1
      go_wp2_with fail
      go_loopw [] (fun wx => ∃ (r2 : List Nat) (rj : List Int) (s9 : St) (Ax : Option Addr) (cx : Nat), Aside0 (nums_ r2 = rj) ∧ Aside0 (resA r2 s9 = (R2, T2)) ∧ rj.length + mu s9 ≤ 20001 ∧ Aside0 (PQ w0 wx p s9) ∧ Aside0 (w.grownBy wx (some p)) ∧ Aside0 (wx.heap[gX]? = some (.cells #[.string nm, .slice A q.length c, .slice Ax rj.length cx] 45 (0, 0))) ∧ Aside0 (k43.R 43 wx w.heap.size (fun _ => True) (.slice A q.length c) (q)) ∧ Aside0 ((Kd.int .i64).R 3 wx w.heap.size (fun _ => True) (.slice Ax rj.length cx) (rj))) (fun wx => muR wx p)
      case atStart => exact ⟨r ++ [k], ri ++ [(k : Int)], t2, A9, c9, ⟨by rw [← HRQ.out]; simp [nums_]⟩, HRES, by simpa using hr8, HPw2, HBw2, ⟨by rw [List.length_append]; exact HgXw2.out⟩, HFw2, ⟨by rw [List.length_append]; exact HNw2.out⟩⟩
      case round =>
        clear HPw2 HBw2 HgXw2 HFw2 HNw2 HRES
        obtain ⟨r2, rj, s9, Ax, cx, HRJ, HRS, hlj, HPwr, HBwr, HgXwr, HFwr, HNwr⟩ := hrel
        have HMX := Aside0.mk HPwr.out.mu
        cases hco : takesB c_comma s9 with
        | true =>
          have HCO := Aside0.mk hco
          have hm1 := mu_takes hco
          have hm2 := mu_num (takesM c_comma s9)
          have HRS2 := HRS.out
          rw [resA_step, if_pos hco] at HRS2
          obtain ⟨u1, hu1⟩ : ∃ x, takesM c_comma s9 = x := ⟨_, rfl⟩
          obtain ⟨u2, hu2⟩ : ∃ x, numM u1 = x := ⟨_, rfl⟩
          obtain ⟨k2, hk2⟩ : ∃ x, numV u1 = x := ⟨_, rfl⟩
          rw [hu1] at hm1 hm2 HRS2
          rw [hu2] at hm2 HRS2
          rw [hk2] at HRS2
          have HU1 : Aside0 ((s9.1.tail, s9.2) = u1) := ⟨by rw [← hu1, takesM, if_pos hco]⟩
          have hr9 : rj.length + 1 + mu u2 ≤ 20001 := by omega
          have HMU : Aside0 (mu u2 < mu s9) := ⟨by omega⟩
          have HRS3 := Aside0.mk HRS2
          have hr7 : rj.length ≤ 20001 := by omega
          have Au2 := Aside0.mk hu2
          have Ak2 := Aside0.mk hk2
          clear hm1 hm2 HRS2 hu1 hu2 hk2 hco HRS
          go_wp2_with fail
          refine (qis_yes w0 wr p s9 HPwr c_comma ⟨by decide⟩ HCO u1 HU1).mono ?_
          rintro e w3 ⟨rfl, HPw3, hb9⟩
          have HBw3 := Aside0.mk (HBwr.out.trans hb9.out)
          have HgXw3 := Aside0.mk (grown_block hb9.out HgXwr.out HNgX.out)
          have HFw3 := Aside0.mk (qrow_call HFwr.out HPwr.out (by decide) hb9.out)
          have HNw3 := Aside0.mk (qrow_call HNwr.out HPwr.out (by decide) hb9.out)
          clear hb9 HPwr HBwr HgXwr HFwr HNwr
          go_upto_region 3 with fail
          have HPd := Aside0.mk (HPw3.out.below (Below.refl w3.heap.size w3).drew)
          have HBd := Aside0.mk (HBw3.out.trans (below_grownBy (Below.refl w3.heap.size w3).drew (some p)))
          have HFd := Aside0.mk (Kd.R_below HFw3.out (Below.refl w3.heap.size w3).drew)
          have HNd := Aside0.mk (Kd.R_below HNw3.out (Below.refl w3.heap.size w3).drew)
          have kd9 : w3.drew.cell? ⟨gX, 2, none⟩ = some (.slice Ax rj.length cx) := blk_cell HgXw3.out 2
          go_region_law
            (first
              | (go_simp; go_at_call 46; refine (qnum w0 _ p u1 HPd k2 Ak2 u2 Au2).mono ?_; rintro e w2 ⟨rfl, hp2, hb2⟩; have HP2 := hp2; have HB2 := Aside0.mk (HBd.out.trans hb2.out); have HgX2 := Aside0.mk (grown_block hb2.out (show w3.drew.heap[gX]? = _ from HgXw3.out) HNgX.out); have HF2 := Aside0.mk (qrow_call HFd.out HPd.out (by decide) hb2.out); have HN2 := Aside0.mk (qrow_call HNd.out HPd.out (by decide) hb2.out); have k29 : w2.cell? ⟨gX, 2, none⟩ = some (.slice Ax rj.length cx) := blk_cell HgX2.out 2; clear hp2 hb2; have k2A : (w2.alloc (.cells #[.int .i64 (k2 : Int)] 3)).cell? ⟨gX, 2, none⟩ = some (.slice Ax rj.length cx) := pw_cell_below ((Below.refl w2.heap.size w2).alloc (Nat.le_refl _) _) k29; go_simp)
              | (refine Kd.R_append_step (Kd.int .i64) (w0 := w2) (W := w2) w.heap.size rfl (.tmp 24) (.tmp 27) 35 3 (.int .i64 0) 8 rfl Tryd.underlying35 infoInt rfl (by decide) (by decide) (.slice Ax rj.length cx) (rj) ((k2 : Int)) [.int .i64 (k2 : Int)] (fun _ => True) (fun _ => False) rfl rfl rfl (fun _ h => h.elim) (fun _ _ => trivial) HN2.out (Below.refl _ _) HB2.out.size (by omega) ?_; intro v5 w5 hr5 hb5 hg5 hat5; obtain ⟨A9, c9, rfl⟩ := Kd.R_slice hr5; obtain ⟨hp9, hf9⟩ := qapp_frame HP2.out HB2.out H.out.bel.size HN2.out (by decide) hg5; have HP5 := Aside0.mk hp9; have HB5 := Aside0.mk hf9; have HgX5 := Aside0.mk (blk_grown HgX2.out hg5 (Kd.R_ne HN2.out HgX2.out (by decide))); have HF5 := Aside0.mk (row_other HF2.out HN2.out (by decide) hg5); have HN5 := Aside0.mk hr5; have k59 : w5.cell? ⟨gX, 2, none⟩ = some (.slice Ax rj.length cx) := blk_cell HgX5.out 2; have z59 := blk_frozen HgX5.out 2; clear hr5 hb5 hg5 hat5 hp9 hf9; go_simp))
          all_goals
            go_wp2_with fail
            have hps := HP5.out.far HNgX.out HWgX.out 2 (.slice A9 (rj ++ [(k2 : Int)]).length c9)
            have hb9 := grown_far HB5.out HLgX.out 2 (.slice A9 (rj ++ [(k2 : Int)]).length c9)
            have hk9 := blk_set HgX5.out 2 (.slice A9 (rj ++ [(k2 : Int)]).length c9)
            simp only [List.setIfInBounds_toArray, List.set_cons_zero, List.set_cons_succ] at hk9
            have hr9 := row_far HN5.out HgX5.out (by decide) 2 (.slice A9 (rj ++ [(k2 : Int)]).length c9)
            have ho9 := row_far HF5.out HgX5.out (by decide) 2 (.slice A9 (rj ++ [(k2 : Int)]).length c9)
            simp only [List.length_append, List.length_cons, List.length_nil, Nat.zero_add] at hk9 hr9 hps hb9 ho9
            have HP9 := Aside0.mk hps
            have HB9 := Aside0.mk hb9
            have HgX9 := Aside0.mk hk9
            have HN9 := Aside0.mk hr9
            have HF9 := Aside0.mk ho9
            have HMY := Aside0.mk hps.mu
            clear hps hb9 hk9 hr9 ho9
            go_roundw
            case rel => exact ⟨r2 ++ [k2], rj ++ [(k2 : Int)], u2, A9, c9, ⟨by rw [← HRJ.out]; simp [nums_]⟩, HRS3, by simpa using hr9, HP9, HB9, ⟨by rw [List.length_append]; exact HgX9.out⟩, HF9, ⟨by rw [List.length_append]; exact HN9.out⟩⟩
            case measure => rw [HMY.out, HMX.out]; exact HMU.out
        | false =>
          have HCO := Aside0.mk hco
          have HRS2 := HRS.out
          rw [resA_step, if_neg (by rw [hco]; decide)] at HRS2
          obtain ⟨rfl, rfl⟩ := Prod.mk.inj HRS2
          clear HRS2 hco HRS
          go_wp2_with fail
          refine (qis_no w0 wr p s9 HPwr c_comma ⟨by decide⟩ HCO).mono ?_
          rintro e w4 ⟨rfl, HPw4, hb9⟩
          have HBw4 := Aside0.mk (HBwr.out.trans hb9.out)
          have HgXw4 := Aside0.mk (grown_block hb9.out HgXwr.out HNgX.out)
          have HFw4 := Aside0.mk (qrow_call HFwr.out HPwr.out (by decide) hb9.out)
          have HNw4 := Aside0.mk (qrow_call HNwr.out HPwr.out (by decide) hb9.out)
          clear hb9 HPwr HBwr HgXwr HFwr HNwr
          go_wp2_with fail
          refine (qmust w0 w4 p s9 HPw4 c_semi ⟨by decide⟩ t9 At9).mono ?_
          rintro e w5 ⟨rfl, HPw5, hb9⟩
          have HBw5 := Aside0.mk (HBw4.out.trans hb9.out)
          have HgXw5 := Aside0.mk (grown_block hb9.out HgXw4.out HNgX.out)
          have HFw5 := Aside0.mk (qrow_call HFw4.out HPw4.out (by decide) hb9.out)
          have HNw5 := Aside0.mk (qrow_call HNw4.out HPw4.out (by decide) hb9.out)
          clear hb9 HPw4 HBw4 HgXw4 HFw4 HNw4
          go_wp2_with fail
          refine bodyPost_ret (results_none rfl _ _ _) rfl ?_
          exact ⟨A, c, Ax, cx, rfl, HPw5, HBw5, ⟨by rw [HFQ.out, HRJ.out]; exact HgXw5.out⟩, ⟨by rw [HFQ.out]; exact HFw5.out⟩, ⟨by rw [HRJ.out]; exact HNw5.out⟩⟩
  | false =>
    have HRE := Aside0.mk hre
    have hE2 := HE.out
    rw [memS, if_neg (by rw [hre]; decide)] at hE2
    obtain ⟨rfl, hE3⟩ := Prod.mk.inj hE2
    obtain ⟨rfl, hE4⟩ := Prod.mk.inj hE3
    have hq7 : q.length ≤ 20001 := by omega
    obtain ⟨t1, ht1⟩ : ∃ x, labM st = x := ⟨_, rfl⟩
    obtain ⟨lb, hlb⟩ : ∃ x, labV st = x := ⟨_, rfl⟩
    obtain ⟨sk, hsk⟩ : ∃ x, scal t1 = x := ⟨_, rfl⟩
    obtain ⟨t2, ht2⟩ : ∃ x, kindM t1 = x := ⟨_, rfl⟩
    obtain ⟨tn, htn⟩ : ∃ x, kindN t1 = x := ⟨_, rfl⟩
    obtain ⟨n2, hn2⟩ : ∃ x, nameV t2 = x := ⟨_, rfl⟩
    obtain ⟨t3, ht3⟩ : ∃ x, nameM t2 = x := ⟨_, rfl⟩
    obtain ⟨t4, ht4⟩ : ∃ x, need c_eq t3 = x := ⟨_, rfl⟩
    obtain ⟨k, hk⟩ : ∃ x, numV t4 = x := ⟨_, rfl⟩
    obtain ⟨t5, ht5⟩ : ∃ x, numM t4 = x := ⟨_, rfl⟩
    obtain ⟨tx, htx⟩ : ∃ x, txt t1 = x := ⟨_, rfl⟩
    have HFD : Aside0 (fieldV st = ⟨n2, k, lb, sk, tn⟩) := ⟨by rw [fieldV]; simp only [ht1, ht2, ht3, ht4, hlb, hsk, htn, hn2, hk]⟩
    have At6 : Aside0 (need c_semi t5 = S2) := ⟨by rw [← hE4, fieldM, ht1, ht2, ht3, ht4, ht5]⟩
    have At1 := Aside0.mk ht1
    have Alb := Aside0.mk hlb
    have Ask := Aside0.mk hsk
    have At2 := Aside0.mk ht2
    have Atn := Aside0.mk htn
    have An2 := Aside0.mk hn2
    have At3 := Aside0.mk ht3
    have At4 := Aside0.mk ht4
    have Ak := Aside0.mk hk
    have At5 := Aside0.mk ht5
    have Atx := Aside0.mk htx
    clear ht1 hlb hsk ht2 htn hn2 ht3 ht4 hk ht5 htx hE2 hE3 hE4 HE hre hls hlr
    go_wp2_with fail
    refine (qis_no w0 wo p st HPwo w_reserved ⟨by decide⟩ HRE).mono ?_
    rintro e w6 ⟨rfl, HPw6, hb9⟩
    have HBw6 := Aside0.mk (HBwo.out.trans hb9.out)
    have HgXw6 := Aside0.mk (grown_block hb9.out HgXwo.out HNgX.out)
    have HFw6 := Aside0.mk (qrow_call HFwo.out HPwo.out (by decide) hb9.out)
    have HNw6 := Aside0.mk (qrow_call HNwo.out HPwo.out (by decide) hb9.out)
    clear hb9 HPwo HBwo HgXwo HFwo HNwo
    go_upto_block 2 with fail
    change Code.wp _ _ _ _ (w6.alloc (.cells #[.string ⟨#[]⟩, .int .i64 0, .int .i64 1, .int .i64 0, .string ⟨#[]⟩] 43))
    have hbel : Below w6.heap.size w6 (w6.alloc (.cells #[.string ⟨#[]⟩, .int .i64 0, .int .i64 1, .int .i64 0, .string ⟨#[]⟩] 43)) := (Below.refl _ _).alloc (Nat.le_refl _) _
    have hk9 := heap_alloc_new w6 (.cells #[.string ⟨#[]⟩, .int .i64 0, .int .i64 1, .int .i64 0, .string ⟨#[]⟩] 43)
    have hps := HPw6.out.below hbel
    have hb9 := HBw6.out.trans (below_grownBy hbel (some p))
    have hkgX := (hbel.block _ (blk_lt HgXw6.out)).trans HgXw6.out
    have hrF := Kd.R_below (Kd.R_mono (ok' := fun k => k ≠ w6.heap.size) (Kd.R_bound HFw6.out) (fun k hk => Nat.ne_of_lt hk.2.2.1)) hbel
    have hrN := Kd.R_below HNw6.out hbel
    obtain ⟨gf, hggf⟩ : ∃ g, w6.heap.size = g := ⟨_, rfl⟩
    have HLgf : Aside0 (w.heap.size ≤ gf) := ⟨by rw [← hggf]; exact HBw6.out.size⟩
    have HNgf : Aside0 (gf ≠ p) := ⟨by rw [← hggf]; exact fun e => by have := HPw6.out.lt; omega⟩
    have HWgf : Aside0 (w0.heap.size ≤ gf) := ⟨by rw [← hggf]; exact HPw6.out.bel.size⟩
    have HDgXgf : Aside0 (gX ≠ gf) := ⟨by rw [← hggf]; exact fun e => by have := blk_lt HgXw6.out; omega⟩
    obtain ⟨w7, hw9⟩ : ∃ x, w6.alloc (.cells #[.string ⟨#[]⟩, .int .i64 0, .int .i64 1, .int .i64 0, .string ⟨#[]⟩] 43) = x := ⟨_, rfl⟩
    rw [hggf] at hk9
    rw [hggf] at hrF
    rw [hw9] at hps hb9 hk9 hkgX hrF hrN ⊢
    have HPw7 := Aside0.mk hps
    have HBw7 := Aside0.mk hb9
    have Hgfw7 := Aside0.mk hk9
    have HgXw7 := Aside0.mk hkgX
    have HFw7 := Aside0.mk hrF
    have HNw7 := Aside0.mk hrN
    simp only [hggf]
    clear hw9 hps hb9 hk9 hbel hggf hkgX hrF hrN HPw6 HBw6 HgXw6 HFw6 HNw6
    go_cut [] (fun wd => Aside0 (PQ w0 wd p t1) ∧ Aside0 (w.grownBy wd (some p)) ∧ Aside0 (wd.heap[gX]? = some (.cells #[.string nm, .slice A q.length c, .slice Ar ri.length cr] 45 (0, 0))) ∧ Aside0 (k43.R 43 wd w.heap.size (fun k => k ≠ gf) (.slice A q.length c) (q)) ∧ Aside0 ((Kd.int .i64).R 3 wd w.heap.size (fun _ => True) (.slice Ar ri.length cr) (ri)) ∧ Aside0 (wd.heap[gf]? = some (.cells #[.string ⟨#[]⟩, .int .i64 0, .int .i64 (lb : Int), .int .i64 0, .string ⟨#[]⟩] 43 (0, 0))))
    case first =>
      cases ho : takesB w_optional st with
      | true =>
        obtain rfl : lb = 2 := by rw [← Alb.out, labV, if_pos ho]
        have HS1 : Aside0 ((st.1.tail, st.2) = t1) := ⟨by rw [← At1.out, labM, ho]; rfl⟩
        have HO := Aside0.mk ho
        clear ho
        go_wp2_with fail
        refine (qis_yes w0 w7 p st HPw7 w_optional ⟨by decide⟩ HO t1 HS1).mono ?_
        rintro e w8 ⟨rfl, HPw8, hb9⟩
        have HBw8 := Aside0.mk (HBw7.out.trans hb9.out)
        have HgXw8 := Aside0.mk (grown_block hb9.out HgXw7.out HNgX.out)
        have Hgfw8 := Aside0.mk (grown_block hb9.out Hgfw7.out HNgf.out)
        have HFw8 := Aside0.mk (qrow_call HFw7.out HPw7.out (by decide) hb9.out)
        have HNw8 := Aside0.mk (qrow_call HNw7.out HPw7.out (by decide) hb9.out)
        clear hb9 HPw7 HBw7 HgXw7 Hgfw7 HFw7 HNw7
        have zgf2 : w8.cell? ⟨gf, 2, none⟩ = some (.int .i64 1) := blk_cell Hgfw8.out 2
        have hfzgf := fun i => blk_frozen Hgfw8.out i
        go_wp2_with fail
        go_meet
        case rel =>
          have hk9 := blk_set Hgfw8.out 2 (.int .i64 2)
          simp only [List.setIfInBounds_toArray, List.set_cons_zero, List.set_cons_succ] at hk9
          exact ⟨⟨HPw8.out.far HNgf.out HWgf.out 2 (.int .i64 2)⟩, ⟨grown_far HBw8.out HLgf.out 2 (.int .i64 2)⟩, ⟨blk_far HgXw8.out (p := ⟨gf, 2, none⟩) HDgXgf.out (.int .i64 2)⟩, ⟨Kd.R_far HFw8.out (p := ⟨gf, 2, none⟩) (fun k hk => hk) (.int .i64 2)⟩, ⟨row_far HNw8.out Hgfw8.out (by decide) 2 (.int .i64 2)⟩, ⟨hk9⟩⟩
      | false =>
        have HO := Aside0.mk ho
        cases hr : takesB w_repeated st with
        | true =>
          obtain rfl : lb = 3 := by rw [← Alb.out, labV, if_neg (by rw [ho]; decide), if_pos hr]
          have HS1 : Aside0 ((st.1.tail, st.2) = t1) := ⟨by rw [← At1.out, labM, ho, hr]; rfl⟩
          have HR := Aside0.mk hr
          clear ho hr
          go_wp2_with fail
          refine (qis_no w0 w7 p st HPw7 w_optional ⟨by decide⟩ HO).mono ?_
          rintro e w9 ⟨rfl, HPw9, hb9⟩
          have HBw9 := Aside0.mk (HBw7.out.trans hb9.out)
          have HgXw9 := Aside0.mk (grown_block hb9.out HgXw7.out HNgX.out)
          have Hgfw9 := Aside0.mk (grown_block hb9.out Hgfw7.out HNgf.out)
          have HFw9 := Aside0.mk (qrow_call HFw7.out HPw7.out (by decide) hb9.out)
          have HNw9 := Aside0.mk (qrow_call HNw7.out HPw7.out (by decide) hb9.out)
          clear hb9 HPw7 HBw7 HgXw7 Hgfw7 HFw7 HNw7
          go_wp2_with fail
          refine (qis_yes w0 w9 p st HPw9 w_repeated ⟨by decide⟩ HR t1 HS1).mono ?_
          rintro e w10 ⟨rfl, HPw10, hb9⟩
          have HBw10 := Aside0.mk (HBw9.out.trans hb9.out)
          have HgXw10 := Aside0.mk (grown_block hb9.out HgXw9.out HNgX.out)
          have Hgfw10 := Aside0.mk (grown_block hb9.out Hgfw9.out HNgf.out)
          have HFw10 := Aside0.mk (qrow_call HFw9.out HPw9.out (by decide) hb9.out)
          have HNw10 := Aside0.mk (qrow_call HNw9.out HPw9.out (by decide) hb9.out)
          clear hb9 HPw9 HBw9 HgXw9 Hgfw9 HFw9 HNw9
          have zgf2 : w10.cell? ⟨gf, 2, none⟩ = some (.int .i64 1) := blk_cell Hgfw10.out 2
          have hfzgf := fun i => blk_frozen Hgfw10.out i
          go_wp2_with fail
          go_meet
          case rel =>
            have hk9 := blk_set Hgfw10.out 2 (.int .i64 3)
            simp only [List.setIfInBounds_toArray, List.set_cons_zero, List.set_cons_succ] at hk9
            exact ⟨⟨HPw10.out.far HNgf.out HWgf.out 2 (.int .i64 3)⟩, ⟨grown_far HBw10.out HLgf.out 2 (.int .i64 3)⟩, ⟨blk_far HgXw10.out (p := ⟨gf, 2, none⟩) HDgXgf.out (.int .i64 3)⟩, ⟨Kd.R_far HFw10.out (p := ⟨gf, 2, none⟩) (fun k hk => hk) (.int .i64 3)⟩, ⟨row_far HNw10.out Hgfw10.out (by decide) 2 (.int .i64 3)⟩, ⟨hk9⟩⟩
        | false =>
          obtain rfl : lb = 1 := by rw [← Alb.out, labV, if_neg (by rw [ho]; decide), if_neg (by rw [hr]; decide)]
          have HS1 : Aside0 (st = t1) := ⟨by rw [← At1.out, labM, ho, hr]; rfl⟩
          have HR := Aside0.mk hr
          clear ho hr
          go_wp2_with fail
          refine (qis_no w0 w7 p st HPw7 w_optional ⟨by decide⟩ HO).mono ?_
          rintro e w11 ⟨rfl, HPw11, hb9⟩
          have HBw11 := Aside0.mk (HBw7.out.trans hb9.out)
          have HgXw11 := Aside0.mk (grown_block hb9.out HgXw7.out HNgX.out)
          have Hgfw11 := Aside0.mk (grown_block hb9.out Hgfw7.out HNgf.out)
          have HFw11 := Aside0.mk (qrow_call HFw7.out HPw7.out (by decide) hb9.out)
          have HNw11 := Aside0.mk (qrow_call HNw7.out HPw7.out (by decide) hb9.out)
          clear hb9 HPw7 HBw7 HgXw7 Hgfw7 HFw7 HNw7
          go_wp2_with fail
          refine (qis_no w0 w11 p st HPw11 w_repeated ⟨by decide⟩ HR).mono ?_
          rintro e w12 ⟨rfl, HPw12, hb9⟩
          have HBw12 := Aside0.mk (HBw11.out.trans hb9.out)
          have HgXw12 := Aside0.mk (grown_block hb9.out HgXw11.out HNgX.out)
          have Hgfw12 := Aside0.mk (grown_block hb9.out Hgfw11.out HNgf.out)
          have HFw12 := Aside0.mk (qrow_call HFw11.out HPw11.out (by decide) hb9.out)
          have HNw12 := Aside0.mk (qrow_call HNw11.out HPw11.out (by decide) hb9.out)
          clear hb9 HPw11 HBw11 HgXw11 Hgfw11 HFw11 HNw11
          go_wp2_with fail
          go_meet
          case rel => exact ⟨⟨by rw [← HS1.out]; exact HPw12.out⟩, HBw12, HgXw12, HFw12, HNw12, Hgfw12⟩
    case rest =>
      obtain ⟨w13, hw9⟩ : ∃ x, x = wc := ⟨_, rfl⟩
      subst hw9
      obtain ⟨HPw13, HBw13, HgXw13, HFw13, HNw13, Hgfw13⟩ := hcut
      clear HPw7 HBw7 HgXw7 Hgfw7 HFw7 HNw7
      go_wp2_with fail
      refine (qtext w0 w13 p t1 HPw13 tx Atx).mono ?_
      rintro e w14 ⟨rfl, HPw14, hb9⟩
      have HBw14 := Aside0.mk (HBw13.out.trans hb9.out)
      have HgXw14 := Aside0.mk (grown_block hb9.out HgXw13.out HNgX.out)
      have Hgfw14 := Aside0.mk (grown_block hb9.out Hgfw13.out HNgf.out)
      have HFw14 := Aside0.mk (qrow_call HFw13.out HPw13.out (by decide) hb9.out)
      have HNw14 := Aside0.mk (qrow_call HNw13.out HPw13.out (by decide) hb9.out)
      clear hb9 HPw13 HBw13 HgXw13 Hgfw13 HFw13 HNw13
      go_wp2_with fail
      refine (qscal w0 w14 p t1 HPw14 tx Atx sk Ask).mono ?_
      rintro e w15 ⟨rfl, HPw15, hb9⟩
      have HBw15 := Aside0.mk (HBw14.out.trans hb9.out)
      have HgXw15 := Aside0.mk (grown_block hb9.out HgXw14.out HNgX.out)
      have Hgfw15 := Aside0.mk (grown_block hb9.out Hgfw14.out HNgf.out)
      have HFw15 := Aside0.mk (qrow_call HFw14.out HPw14.out (by decide) hb9.out)
      have HNw15 := Aside0.mk (qrow_call HNw14.out HPw14.out (by decide) hb9.out)
      clear hb9 HPw14 HBw14 HgXw14 Hgfw14 HFw14 HNw14
      have zgf3 : w15.cell? ⟨gf, 3, none⟩ = some (.int .i64 0) := blk_cell Hgfw15.out 3
      have hfzgf := fun i => blk_frozen Hgfw15.out i
      go_upto_region 11 with fail
      change Code.wp _ _ _ _ (w15.setCell ⟨gf, 3, none⟩ (.int .i64 (sk : Int)))
      have hps := (HPw15.out.far HNgf.out HWgf.out 3 (.int .i64 (sk : Int)))
      have hb9 := (grown_far HBw15.out HLgf.out 3 (.int .i64 (sk : Int)))
      have hk9 := (blk_set Hgfw15.out 3 (.int .i64 (sk : Int)))
      simp only [List.setIfInBounds_toArray, List.set_cons_zero, List.set_cons_succ] at hk9
      have hkgX := (blk_far HgXw15.out (p := ⟨gf, 3, none⟩) HDgXgf.out (.int .i64 (sk : Int)))
      have hrF := (Kd.R_far HFw15.out (p := ⟨gf, 3, none⟩) (fun k hk => hk) (.int .i64 (sk : Int)))
      have hrN := (row_far HNw15.out Hgfw15.out (by decide) 3 (.int .i64 (sk : Int)))
      obtain ⟨w16, hw9⟩ : ∃ x, (w15.setCell ⟨gf, 3, none⟩ (.int .i64 (sk : Int))) = x := ⟨_, rfl⟩
      rw [hw9] at hps hb9 hk9 hkgX hrF hrN ⊢
      have HPw16 := Aside0.mk hps
      have HBw16 := Aside0.mk hb9
      have Hgfw16 := Aside0.mk hk9
      have HgXw16 := Aside0.mk hkgX
      have HFw16 := Aside0.mk hrF
      have HNw16 := Aside0.mk hrN
      clear hw9 hps hb9 hk9 hkgX hrF hrN zgf3 hfzgf HPw15 HBw15 HgXw15 Hgfw15 HFw15 HNw15
      by_cases hz : sk = 0
      · have HS2 : Aside0 (nameM t1 = t2) := ⟨by rw [← At2.out, kindM, if_pos (Ask.out.trans hz)]⟩
        have HS3 : Aside0 (nameV t1 = tn) := ⟨by rw [← Atn.out, kindN, if_pos (Ask.out.trans hz)]⟩
        have hsk1 : ¬ (0 : Int) < (sk : Int) := by omega
        have d1 : decide ((0 : Int) < (sk : Int)) = false := decide_eq_false hsk1
        clear hz
        have zgf3 : w16.cell? ⟨gf, 3, none⟩ = some (.int .i64 (sk : Int)) := blk_cell Hgfw16.out 3
        go_wp2_with fail
        refine (qname w0 w16 p t1 HPw16 tn HS3 t2 HS2).mono ?_
        rintro e w17 ⟨rfl, HPw17, hb9⟩
        have HBw17 := Aside0.mk (HBw16.out.trans hb9.out)
        have HgXw17 := Aside0.mk (grown_block hb9.out HgXw16.out HNgX.out)
        have Hgfw17 := Aside0.mk (grown_block hb9.out Hgfw16.out HNgf.out)
        have HFw17 := Aside0.mk (qrow_call HFw16.out HPw16.out (by decide) hb9.out)
        have HNw17 := Aside0.mk (qrow_call HNw16.out HPw16.out (by decide) hb9.out)
        clear hb9 HPw16 HBw16 HgXw16 Hgfw16 HFw16 HNw16
        clear zgf3 d1 hsk1
        have zgf4 : w17.cell? ⟨gf, 4, none⟩ = some (.string ⟨#[]⟩) := blk_cell Hgfw17.out 4
        have hfzgf := fun i => blk_frozen Hgfw17.out i
        go_upto_region 14 with fail
        change Code.wp _ _ _ _ (w17.setCell ⟨gf, 4, none⟩ (.string tn))
        have hps := (HPw17.out.far HNgf.out HWgf.out 4 (.string tn))
        have hb9 := (grown_far HBw17.out HLgf.out 4 (.string tn))
        have hk9 := (blk_set Hgfw17.out 4 (.string tn))
        simp only [List.setIfInBounds_toArray, List.set_cons_zero, List.set_cons_succ] at hk9
        have hkgX := (blk_far HgXw17.out (p := ⟨gf, 4, none⟩) HDgXgf.out (.string tn))
        have hrF := (Kd.R_far HFw17.out (p := ⟨gf, 4, none⟩) (fun k hk => hk) (.string tn))
        have hrN := (row_far HNw17.out Hgfw17.out (by decide) 4 (.string tn))
        obtain ⟨w18, hw9⟩ : ∃ x, (w17.setCell ⟨gf, 4, none⟩ (.string tn)) = x := ⟨_, rfl⟩
        rw [hw9] at hps hb9 hk9 hkgX hrF hrN ⊢
        have HPw18 := Aside0.mk hps
        have HBw18 := Aside0.mk hb9
        have Hgfw18 := Aside0.mk hk9
        have HgXw18 := Aside0.mk hkgX
        have HFw18 := Aside0.mk hrF
        have HNw18 := Aside0.mk hrN
        clear hw9 hps hb9 hk9 hkgX hrF hrN zgf4 hfzgf HPw17 HBw17 HgXw17 Hgfw17 HFw17 HNw17
        go_wp2_with fail
        refine (qname w0 w18 p t2 HPw18 n2 An2 t3 At3).mono ?_
        rintro e w19 ⟨rfl, HPw19, hb9⟩
        have HBw19 := Aside0.mk (HBw18.out.trans hb9.out)
        have HgXw19 := Aside0.mk (grown_block hb9.out HgXw18.out HNgX.out)
        have Hgfw19 := Aside0.mk (grown_block hb9.out Hgfw18.out HNgf.out)
        have HFw19 := Aside0.mk (qrow_call HFw18.out HPw18.out (by decide) hb9.out)
        have HNw19 := Aside0.mk (qrow_call HNw18.out HPw18.out (by decide) hb9.out)
        clear hb9 HPw18 HBw18 HgXw18 Hgfw18 HFw18 HNw18
        have zgf0 : w19.cell? ⟨gf, 0, none⟩ = some (.string ⟨#[]⟩) := blk_cell Hgfw19.out 0
        have hfzgf := fun i => blk_frozen Hgfw19.out i
        go_upto_region 15 with fail
        change Code.wp _ _ _ _ (w19.setCell ⟨gf, 0, none⟩ (.string n2))
        have hps := (HPw19.out.far HNgf.out HWgf.out 0 (.string n2))
        have hb9 := (grown_far HBw19.out HLgf.out 0 (.string n2))
        have hk9 := (blk_set Hgfw19.out 0 (.string n2))
        simp only [List.setIfInBounds_toArray, List.set_cons_zero, List.set_cons_succ] at hk9
        have hkgX := (blk_far HgXw19.out (p := ⟨gf, 0, none⟩) HDgXgf.out (.string n2))
        have hrF := (Kd.R_far HFw19.out (p := ⟨gf, 0, none⟩) (fun k hk => hk) (.string n2))
        have hrN := (row_far HNw19.out Hgfw19.out (by decide) 0 (.string n2))
        obtain ⟨w20, hw9⟩ : ∃ x, (w19.setCell ⟨gf, 0, none⟩ (.string n2)) = x := ⟨_, rfl⟩
        rw [hw9] at hps hb9 hk9 hkgX hrF hrN ⊢
        have HPw20 := Aside0.mk hps
        have HBw20 := Aside0.mk hb9
        have Hgfw20 := Aside0.mk hk9
        have HgXw20 := Aside0.mk hkgX
        have HFw20 := Aside0.mk hrF
        have HNw20 := Aside0.mk hrN
        clear hw9 hps hb9 hk9 hkgX hrF hrN zgf0 hfzgf HPw19 HBw19 HgXw19 Hgfw19 HFw19 HNw19
        go_wp2_with fail
        refine (qmust w0 w20 p t3 HPw20 c_eq ⟨by decide⟩ t4 At4).mono ?_
        rintro e w21 ⟨rfl, HPw21, hb9⟩
        have HBw21 := Aside0.mk (HBw20.out.trans hb9.out)
        have HgXw21 := Aside0.mk (grown_block hb9.out HgXw20.out HNgX.out)
        have Hgfw21 := Aside0.mk (grown_block hb9.out Hgfw20.out HNgf.out)
        have HFw21 := Aside0.mk (qrow_call HFw20.out HPw20.out (by decide) hb9.out)
        have HNw21 := Aside0.mk (qrow_call HNw20.out HPw20.out (by decide) hb9.out)
        clear hb9 HPw20 HBw20 HgXw20 Hgfw20 HFw20 HNw20
        go_wp2_with fail
        refine (qnum w0 w21 p t4 HPw21 k Ak t5 At5).mono ?_
        rintro e w22 ⟨rfl, HPw22, hb9⟩
        have HBw22 := Aside0.mk (HBw21.out.trans hb9.out)
        have HgXw22 := Aside0.mk (grown_block hb9.out HgXw21.out HNgX.out)
        have Hgfw22 := Aside0.mk (grown_block hb9.out Hgfw21.out HNgf.out)
        have HFw22 := Aside0.mk (qrow_call HFw21.out HPw21.out (by decide) hb9.out)
        have HNw22 := Aside0.mk (qrow_call HNw21.out HPw21.out (by decide) hb9.out)
        clear hb9 HPw21 HBw21 HgXw21 Hgfw21 HFw21 HNw21
        have zgf1 : w22.cell? ⟨gf, 1, none⟩ = some (.int .i64 0) := blk_cell Hgfw22.out 1
        have hfzgf := fun i => blk_frozen Hgfw22.out i
        go_upto_region 17 with fail
        change Code.wp _ _ _ _ (w22.setCell ⟨gf, 1, none⟩ (.int .i64 (k : Int)))
        have hps := (HPw22.out.far HNgf.out HWgf.out 1 (.int .i64 (k : Int)))
        have hb9 := (grown_far HBw22.out HLgf.out 1 (.int .i64 (k : Int)))
        have hk9 := (blk_set Hgfw22.out 1 (.int .i64 (k : Int)))
        simp only [List.setIfInBounds_toArray, List.set_cons_zero, List.set_cons_succ] at hk9
        have hkgX := (blk_far HgXw22.out (p := ⟨gf, 1, none⟩) HDgXgf.out (.int .i64 (k : Int)))
        have hrF := (Kd.R_far HFw22.out (p := ⟨gf, 1, none⟩) (fun k hk => hk) (.int .i64 (k : Int)))
        have hrN := (row_far HNw22.out Hgfw22.out (by decide) 1 (.int .i64 (k : Int)))
        obtain ⟨w23, hw9⟩ : ∃ x, (w22.setCell ⟨gf, 1, none⟩ (.int .i64 (k : Int))) = x := ⟨_, rfl⟩
        rw [hw9] at hps hb9 hk9 hkgX hrF hrN ⊢
        have HPw23 := Aside0.mk hps
        have HBw23 := Aside0.mk hb9
        have Hgfw23 := Aside0.mk hk9
        have HgXw23 := Aside0.mk hkgX
        have HFw23 := Aside0.mk hrF
        have HNw23 := Aside0.mk hrN
        clear hw9 hps hb9 hk9 hkgX hrF hrN zgf1 hfzgf HPw22 HBw22 HgXw22 Hgfw22 HFw22 HNw22
        go_wp2_with fail
        refine (qmust w0 w23 p t5 HPw23 c_semi ⟨by decide⟩ S2 At6).mono ?_
        rintro e w24 ⟨rfl, HPw24, hb9⟩
        have HBw24 := Aside0.mk (HBw23.out.trans hb9.out)
        have HgXw24 := Aside0.mk (grown_block hb9.out HgXw23.out HNgX.out)
        have Hgfw24 := Aside0.mk (grown_block hb9.out Hgfw23.out HNgf.out)
        have HFw24 := Aside0.mk (qrow_call HFw23.out HPw23.out (by decide) hb9.out)
        have HNw24 := Aside0.mk (qrow_call HNw23.out HPw23.out (by decide) hb9.out)
        clear hb9 HPw23 HBw23 HgXw23 Hgfw23 HFw23 HNw23
        go_upto_region 18 with fail
        have HP2 := Aside0.mk (HPw24.out.below (Below.refl w24.heap.size w24).drew)
        have HB2 := Aside0.mk (HBw24.out.trans (below_grownBy (Below.refl w24.heap.size w24).drew (some p)))
        have HF2 := Aside0.mk (Kd.R_below (Kd.R_mono (ok' := fun _ => True) HFw24.out (fun _ _ => trivial)) (Below.refl w24.heap.size w24).drew)
        have HN2 := Aside0.mk (Kd.R_below (Kd.R_mono (ok' := fun _ => True) HNw24.out (fun _ _ => trivial)) (Below.refl w24.heap.size w24).drew)
        have HgX2 : Aside0 (w24.drew.heap[gX]? = _) := ⟨HgXw24.out⟩
        have kf0 : w24.drew.cell? ⟨gf, 0, none⟩ = some (.string n2) := blk_cell Hgfw24.out 0
        have kf1 : w24.drew.cell? ⟨gf, 1, none⟩ = some (.int .i64 (k : Int)) := blk_cell Hgfw24.out 1
        have kf2 : w24.drew.cell? ⟨gf, 2, none⟩ = some (.int .i64 (lb : Int)) := blk_cell Hgfw24.out 2
        have kf3 : w24.drew.cell? ⟨gf, 3, none⟩ = some (.int .i64 (sk : Int)) := blk_cell Hgfw24.out 3
        have kf4 : w24.drew.cell? ⟨gf, 4, none⟩ = some (.string tn) := blk_cell Hgfw24.out 4
        have kd9 : w24.drew.cell? ⟨gX, 1, none⟩ = some (.slice A q.length c) := blk_cell HgXw24.out 1
        have k2A : (w24.alloc (.cells #[.string n2, .int .i64 (k : Int), .int .i64 (lb : Int), .int .i64 (sk : Int), .string tn] 43)).cell? ⟨gX, 1, none⟩ = some (.slice A q.length c) := pw_cell_below ((Below.refl w24.heap.size w24).alloc (Nat.le_refl _) _) (blk_cell HgXw24.out 1)
        have k2B : (w24.alloc (.cells #[.string n2, .int .i64 (k : Int), .int .i64 (lb : Int), .int .i64 (sk : Int), .string tn] 43)).drew.cell? ⟨gX, 1, none⟩ = some (.slice A q.length c) := k2A
        clear HPw24 HBw24 HgXw24 Hgfw24 HFw24 HNw24
        go_region_law
          (first
            | (refine Kd.R_append_step k43 (w0 := w24.drew) (W := w24.drew) w.heap.size rfl (.tmp 76) (.tmp 78) 38 43 (.agg #[.string ⟨#[]⟩, .int .i64 0, .int .i64 0, .int .i64 0, .string ⟨#[]⟩]) 56 rfl Tryd.underlying38 infoField rfl (by decide) (by decide) (.slice A q.length c) (q) (rS ⟨n2, k, lb, sk, tn⟩) [.string n2, .int .i64 (k : Int), .int .i64 (lb : Int), .int .i64 (sk : Int), .string tn] (fun _ => True) (fun _ => False) rfl rfl (k43_mkM _ _ _ (rS ⟨n2, k, lb, sk, tn⟩)) (fun _ h => h.elim) (fun _ _ => trivial) HF2.out (Below.refl _ _) HB2.out.size (by omega) ?_; intro v5 w5 hr5 hb5 hg5 hat5; obtain ⟨A9, c9, rfl⟩ := Kd.R_slice hr5; obtain ⟨hp9, hf9⟩ := qapp_frame HP2.out HB2.out H.out.bel.size HF2.out (by decide) hg5; have HP5 := Aside0.mk hp9; have HB5 := Aside0.mk hf9; have HgX5 := Aside0.mk (blk_grown HgX2.out hg5 (Kd.R_ne HF2.out HgX2.out (by decide))); have HN5 := Aside0.mk (row_other HN2.out HF2.out (by decide) hg5); have HF5 := Aside0.mk hr5; have k59 : w5.cell? ⟨gX, 1, none⟩ = some (.slice A q.length c) := blk_cell HgX5.out 1; have z59 := blk_frozen HgX5.out 1; clear hr5 hb5 hg5 hat5 hp9 hf9; go_simp))
        all_goals
          go_wp2_with fail
          go_end0
          have hps := HP5.out.far HNgX.out HWgX.out 1 (.slice A9 (q ++ [rS ⟨n2, k, lb, sk, tn⟩]).length c9)
          have hb9 := grown_far HB5.out HLgX.out 1 (.slice A9 (q ++ [rS ⟨n2, k, lb, sk, tn⟩]).length c9)
          have hk9 := blk_set HgX5.out 1 (.slice A9 (q ++ [rS ⟨n2, k, lb, sk, tn⟩]).length c9)
          simp only [List.setIfInBounds_toArray, List.set_cons_zero, List.set_cons_succ] at hk9
          have hr9 := row_far HF5.out HgX5.out (by decide) 1 (.slice A9 (q ++ [rS ⟨n2, k, lb, sk, tn⟩]).length c9)
          have ho9 := row_far HN5.out HgX5.out (by decide) 1 (.slice A9 (q ++ [rS ⟨n2, k, lb, sk, tn⟩]).length c9)
          simp only [List.length_append, List.length_cons, List.length_nil, Nat.zero_add] at hk9 hr9 hps hb9 ho9
          have hmap : (f ++ [fieldV st]).map rS = q ++ [rS ⟨n2, k, lb, sk, tn⟩] := by rw [List.map_append, HFQ.out, HFD.out]; rfl
          exact ⟨A9, c9, Ar, cr, rfl, ⟨hps⟩, ⟨hb9⟩, ⟨by rw [hmap, HRQ.out, List.length_append]; exact hk9⟩, ⟨by rw [hmap, List.length_append]; exact hr9⟩, ⟨by rw [HRQ.out]; exact ho9⟩⟩
      · obtain rfl : tn = ⟨#[]⟩ := by rw [← Atn.out, kindN, if_neg (by rw [Ask.out]; exact hz)]; rfl
        have hne := scal_some (st := t1) (by rw [Ask.out]; exact hz)
        have HS2 : Aside0 ((t1.1.tail, t1.2) = t2) := ⟨by rw [← At2.out, kindM, if_neg (by rw [Ask.out]; exact hz)]⟩
        obtain ⟨i, c1, hi, hp9, hg9⟩ := HPw16.out.next hne.2
        obtain ⟨A9, c9, l9, i9, hk9, _⟩ := HPw16.out.pr.par
        have hfz := blk_frozen hk9 1
        have hw64 : ¬ (9223372036854775807 < (i : Int) + 1) := by omega
        have hsk1 : (0 : Int) < (sk : Int) := by omega
        have d1 : decide ((0 : Int) < (sk : Int)) = true := decide_eq_true hsk1
        rw [HS2.out] at hp9
        have HP9 := Aside0.mk hp9
        have HG9 := Aside0.mk hg9
        clear hp9 hg9 hk9 hne
        have zgf3 : w16.cell? ⟨gf, 3, none⟩ = some (.int .i64 (sk : Int)) := blk_cell Hgfw16.out 3
        go_upto_region 14 with fail
        change Code.wp _ _ _ _ (w16.setCell ⟨p, 1, none⟩ (.int .i64 ((i : Int) + 1)))
        have hk1 := grown_block HG9.out HgXw16.out HNgX.out
        have hk2 := grown_block HG9.out Hgfw16.out HNgf.out
        have hrF := qrow_call HFw16.out HPw16.out (by decide) HG9.out
        have hrN := qrow_call HNw16.out HPw16.out (by decide) HG9.out
        have hb9 := HBw16.out.trans HG9.out
        have hp9 := HP9.out
        obtain ⟨w25, hw9⟩ : ∃ x, w16.setCell ⟨p, 1, none⟩ (.int .i64 ((i : Int) + 1)) = x := ⟨_, rfl⟩
        rw [hw9] at hk1 hk2 hrF hrN hb9 hp9 ⊢
        have HPw25 := Aside0.mk hp9
        have HBw25 := Aside0.mk hb9
        have HgXw25 := Aside0.mk hk1
        have Hgfw25 := Aside0.mk hk2
        have HFw25 := Aside0.mk hrF
        have HNw25 := Aside0.mk hrN
        clear hw9 hk1 hk2 hrF hrN hb9 hp9 HP9 HG9 zgf3 c1 hfz hw64 d1 hsk1 hi HPw16 HBw16 HgXw16 Hgfw16 HFw16 HNw16
        go_wp2_with fail
        refine (qname w0 w25 p t2 HPw25 n2 An2 t3 At3).mono ?_
        rintro e w26 ⟨rfl, HPw26, hb9⟩
        have HBw26 := Aside0.mk (HBw25.out.trans hb9.out)
        have HgXw26 := Aside0.mk (grown_block hb9.out HgXw25.out HNgX.out)
        have Hgfw26 := Aside0.mk (grown_block hb9.out Hgfw25.out HNgf.out)
        have HFw26 := Aside0.mk (qrow_call HFw25.out HPw25.out (by decide) hb9.out)
        have HNw26 := Aside0.mk (qrow_call HNw25.out HPw25.out (by decide) hb9.out)
        clear hb9 HPw25 HBw25 HgXw25 Hgfw25 HFw25 HNw25
        have zgf0 : w26.cell? ⟨gf, 0, none⟩ = some (.string ⟨#[]⟩) := blk_cell Hgfw26.out 0
        have hfzgf := fun i => blk_frozen Hgfw26.out i
        go_upto_region 15 with fail
        change Code.wp _ _ _ _ (w26.setCell ⟨gf, 0, none⟩ (.string n2))
        have hps := (HPw26.out.far HNgf.out HWgf.out 0 (.string n2))
        have hb9 := (grown_far HBw26.out HLgf.out 0 (.string n2))
        have hk9 := (blk_set Hgfw26.out 0 (.string n2))
        simp only [List.setIfInBounds_toArray, List.set_cons_zero, List.set_cons_succ] at hk9
        have hkgX := (blk_far HgXw26.out (p := ⟨gf, 0, none⟩) HDgXgf.out (.string n2))
        have hrF := (Kd.R_far HFw26.out (p := ⟨gf, 0, none⟩) (fun k hk => hk) (.string n2))
        have hrN := (row_far HNw26.out Hgfw26.out (by decide) 0 (.string n2))
        obtain ⟨w27, hw9⟩ : ∃ x, (w26.setCell ⟨gf, 0, none⟩ (.string n2)) = x := ⟨_, rfl⟩
        rw [hw9] at hps hb9 hk9 hkgX hrF hrN ⊢
        have HPw27 := Aside0.mk hps
        have HBw27 := Aside0.mk hb9
        have Hgfw27 := Aside0.mk hk9
        have HgXw27 := Aside0.mk hkgX
        have HFw27 := Aside0.mk hrF
        have HNw27 := Aside0.mk hrN
        clear hw9 hps hb9 hk9 hkgX hrF hrN zgf0 hfzgf HPw26 HBw26 HgXw26 Hgfw26 HFw26 HNw26
        go_wp2_with fail
        refine (qmust w0 w27 p t3 HPw27 c_eq ⟨by decide⟩ t4 At4).mono ?_
        rintro e w28 ⟨rfl, HPw28, hb9⟩
        have HBw28 := Aside0.mk (HBw27.out.trans hb9.out)
        have HgXw28 := Aside0.mk (grown_block hb9.out HgXw27.out HNgX.out)
        have Hgfw28 := Aside0.mk (grown_block hb9.out Hgfw27.out HNgf.out)
        have HFw28 := Aside0.mk (qrow_call HFw27.out HPw27.out (by decide) hb9.out)
        have HNw28 := Aside0.mk (qrow_call HNw27.out HPw27.out (by decide) hb9.out)
        clear hb9 HPw27 HBw27 HgXw27 Hgfw27 HFw27 HNw27
        go_wp2_with fail
        refine (qnum w0 w28 p t4 HPw28 k Ak t5 At5).mono ?_
        rintro e w29 ⟨rfl, HPw29, hb9⟩
        have HBw29 := Aside0.mk (HBw28.out.trans hb9.out)
        have HgXw29 := Aside0.mk (grown_block hb9.out HgXw28.out HNgX.out)
        have Hgfw29 := Aside0.mk (grown_block hb9.out Hgfw28.out HNgf.out)
        have HFw29 := Aside0.mk (qrow_call HFw28.out HPw28.out (by decide) hb9.out)
        have HNw29 := Aside0.mk (qrow_call HNw28.out HPw28.out (by decide) hb9.out)
        clear hb9 HPw28 HBw28 HgXw28 Hgfw28 HFw28 HNw28
        have zgf1 : w29.cell? ⟨gf, 1, none⟩ = some (.int .i64 0) := blk_cell Hgfw29.out 1
        have hfzgf := fun i => blk_frozen Hgfw29.out i
        go_upto_region 17 with fail
        change Code.wp _ _ _ _ (w29.setCell ⟨gf, 1, none⟩ (.int .i64 (k : Int)))
        have hps := (HPw29.out.far HNgf.out HWgf.out 1 (.int .i64 (k : Int)))
        have hb9 := (grown_far HBw29.out HLgf.out 1 (.int .i64 (k : Int)))
        have hk9 := (blk_set Hgfw29.out 1 (.int .i64 (k : Int)))
        simp only [List.setIfInBounds_toArray, List.set_cons_zero, List.set_cons_succ] at hk9
        have hkgX := (blk_far HgXw29.out (p := ⟨gf, 1, none⟩) HDgXgf.out (.int .i64 (k : Int)))
        have hrF := (Kd.R_far HFw29.out (p := ⟨gf, 1, none⟩) (fun k hk => hk) (.int .i64 (k : Int)))
        have hrN := (row_far HNw29.out Hgfw29.out (by decide) 1 (.int .i64 (k : Int)))
        obtain ⟨w30, hw9⟩ : ∃ x, (w29.setCell ⟨gf, 1, none⟩ (.int .i64 (k : Int))) = x := ⟨_, rfl⟩
        rw [hw9] at hps hb9 hk9 hkgX hrF hrN ⊢
        have HPw30 := Aside0.mk hps
        have HBw30 := Aside0.mk hb9
        have Hgfw30 := Aside0.mk hk9
        have HgXw30 := Aside0.mk hkgX
        have HFw30 := Aside0.mk hrF
        have HNw30 := Aside0.mk hrN
        clear hw9 hps hb9 hk9 hkgX hrF hrN zgf1 hfzgf HPw29 HBw29 HgXw29 Hgfw29 HFw29 HNw29
        go_wp2_with fail
        refine (qmust w0 w30 p t5 HPw30 c_semi ⟨by decide⟩ S2 At6).mono ?_
        rintro e w31 ⟨rfl, HPw31, hb9⟩
        have HBw31 := Aside0.mk (HBw30.out.trans hb9.out)
        have HgXw31 := Aside0.mk (grown_block hb9.out HgXw30.out HNgX.out)
        have Hgfw31 := Aside0.mk (grown_block hb9.out Hgfw30.out HNgf.out)
        have HFw31 := Aside0.mk (qrow_call HFw30.out HPw30.out (by decide) hb9.out)
        have HNw31 := Aside0.mk (qrow_call HNw30.out HPw30.out (by decide) hb9.out)
        clear hb9 HPw30 HBw30 HgXw30 Hgfw30 HFw30 HNw30
        go_upto_region 18 with fail
        have HP2 := Aside0.mk (HPw31.out.below (Below.refl w31.heap.size w31).drew)
        have HB2 := Aside0.mk (HBw31.out.trans (below_grownBy (Below.refl w31.heap.size w31).drew (some p)))
        have HF2 := Aside0.mk (Kd.R_below (Kd.R_mono (ok' := fun _ => True) HFw31.out (fun _ _ => trivial)) (Below.refl w31.heap.size w31).drew)
        have HN2 := Aside0.mk (Kd.R_below (Kd.R_mono (ok' := fun _ => True) HNw31.out (fun _ _ => trivial)) (Below.refl w31.heap.size w31).drew)
        have HgX2 : Aside0 (w31.drew.heap[gX]? = _) := ⟨HgXw31.out⟩
        have kf0 : w31.drew.cell? ⟨gf, 0, none⟩ = some (.string n2) := blk_cell Hgfw31.out 0
        have kf1 : w31.drew.cell? ⟨gf, 1, none⟩ = some (.int .i64 (k : Int)) := blk_cell Hgfw31.out 1
        have kf2 : w31.drew.cell? ⟨gf, 2, none⟩ = some (.int .i64 (lb : Int)) := blk_cell Hgfw31.out 2
        have kf3 : w31.drew.cell? ⟨gf, 3, none⟩ = some (.int .i64 (sk : Int)) := blk_cell Hgfw31.out 3
        have kf4 : w31.drew.cell? ⟨gf, 4, none⟩ = some (.string ⟨#[]⟩) := blk_cell Hgfw31.out 4
        have kd9 : w31.drew.cell? ⟨gX, 1, none⟩ = some (.slice A q.length c) := blk_cell HgXw31.out 1
        have k2A : (w31.alloc (.cells #[.string n2, .int .i64 (k : Int), .int .i64 (lb : Int), .int .i64 (sk : Int), .string ⟨#[]⟩] 43)).cell? ⟨gX, 1, none⟩ = some (.slice A q.length c) := pw_cell_below ((Below.refl w31.heap.size w31).alloc (Nat.le_refl _) _) (blk_cell HgXw31.out 1)
        have k2B : (w31.alloc (.cells #[.string n2, .int .i64 (k : Int), .int .i64 (lb : Int), .int .i64 (sk : Int), .string ⟨#[]⟩] 43)).drew.cell? ⟨gX, 1, none⟩ = some (.slice A q.length c) := k2A
        clear HPw31 HBw31 HgXw31 Hgfw31 HFw31 HNw31
        go_region_law
          (first
            | (refine Kd.R_append_step k43 (w0 := w31.drew) (W := w31.drew) w.heap.size rfl (.tmp 76) (.tmp 78) 38 43 (.agg #[.string ⟨#[]⟩, .int .i64 0, .int .i64 0, .int .i64 0, .string ⟨#[]⟩]) 56 rfl Tryd.underlying38 infoField rfl (by decide) (by decide) (.slice A q.length c) (q) (rS ⟨n2, k, lb, sk, ⟨#[]⟩⟩) [.string n2, .int .i64 (k : Int), .int .i64 (lb : Int), .int .i64 (sk : Int), .string ⟨#[]⟩] (fun _ => True) (fun _ => False) rfl rfl (k43_mkM _ _ _ (rS ⟨n2, k, lb, sk, ⟨#[]⟩⟩)) (fun _ h => h.elim) (fun _ _ => trivial) HF2.out (Below.refl _ _) HB2.out.size (by omega) ?_; intro v5 w5 hr5 hb5 hg5 hat5; obtain ⟨A9, c9, rfl⟩ := Kd.R_slice hr5; obtain ⟨hp9, hf9⟩ := qapp_frame HP2.out HB2.out H.out.bel.size HF2.out (by decide) hg5; have HP5 := Aside0.mk hp9; have HB5 := Aside0.mk hf9; have HgX5 := Aside0.mk (blk_grown HgX2.out hg5 (Kd.R_ne HF2.out HgX2.out (by decide))); have HN5 := Aside0.mk (row_other HN2.out HF2.out (by decide) hg5); have HF5 := Aside0.mk hr5; have k59 : w5.cell? ⟨gX, 1, none⟩ = some (.slice A q.length c) := blk_cell HgX5.out 1; have z59 := blk_frozen HgX5.out 1; clear hr5 hb5 hg5 hat5 hp9 hf9; go_simp))
        all_goals
          go_wp2_with fail
          go_end0
          have hps := HP5.out.far HNgX.out HWgX.out 1 (.slice A9 (q ++ [rS ⟨n2, k, lb, sk, ⟨#[]⟩⟩]).length c9)
          have hb9 := grown_far HB5.out HLgX.out 1 (.slice A9 (q ++ [rS ⟨n2, k, lb, sk, ⟨#[]⟩⟩]).length c9)
          have hk9 := blk_set HgX5.out 1 (.slice A9 (q ++ [rS ⟨n2, k, lb, sk, ⟨#[]⟩⟩]).length c9)
          simp only [List.setIfInBounds_toArray, List.set_cons_zero, List.set_cons_succ] at hk9
          have hr9 := row_far HF5.out HgX5.out (by decide) 1 (.slice A9 (q ++ [rS ⟨n2, k, lb, sk, ⟨#[]⟩⟩]).length c9)
          have ho9 := row_far HN5.out HgX5.out (by decide) 1 (.slice A9 (q ++ [rS ⟨n2, k, lb, sk, ⟨#[]⟩⟩]).length c9)
          simp only [List.length_append, List.length_cons, List.length_nil, Nat.zero_add] at hk9 hr9 hps hb9 ho9
          have hmap : (f ++ [fieldV st]).map rS = q ++ [rS ⟨n2, k, lb, sk, ⟨#[]⟩⟩] := by rw [List.map_append, HFQ.out, HFD.out]; rfl
          exact ⟨A9, c9, Ar, cr, rfl, ⟨hps⟩, ⟨hb9⟩, ⟨by rw [hmap, HRQ.out, List.length_append]; exact hk9⟩, ⟨by rw [hmap, List.length_append]; exact hr9⟩, ⟨by rw [HRQ.out]; exact ho9⟩⟩
end Go.Proofs.YtbfhglaaombglaaDoor
end
