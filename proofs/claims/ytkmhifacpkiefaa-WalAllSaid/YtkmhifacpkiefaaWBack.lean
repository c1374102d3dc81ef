/- The law WalBack's walk. -/
import Derived.Test.YtkmhifacpkiefaaWPure2
namespace Go.Proofs.Ytkmhifacpkiefaa
set_option linter.unusedVariables false
set_option linter.unusedSimpArgs false
open Go.RowKit Go.Proofs.YtkmhifacpkiefaaW.PrintWords

def ne (ts : List (List Int)) : List (List Int) := ts.filter (fun t => !t.isEmpty)
theorem laidB_flat (ts : List (List Int)) : laidB ts = flat (ne ts) := rfl
theorem endsB_length (ts : List (List Int)) : (endsB ts).length = (ne ts).length := endsF_length _ 0
theorem ne_body (ts : List (List Int)) (h : Small ts) : ∀ t ∈ ne ts, Body t := by
  intro t ht
  obtain ⟨h1, h2⟩ := List.mem_filter.1 ht
  have h3 := h.1 t h1
  refine ⟨?_, by omega⟩
  cases t with
  | nil => simp at h2
  | cons x t => simp
theorem ne_le (ts : List (List Int)) : (ne ts).length ≤ ts.length := List.length_filter_le _ _
theorem ne_at (ts : List (List Int)) (j : Nat) (hj : j < ts.length) (h : 0 < (ts.getD j []).length) : (ne (ts.take j)).length < (ne ts).length ∧ (ne ts).getD (ne (ts.take j)).length [] = ts.getD j [] := by
  have e : ts = ts.take j ++ (ts.getD j [] :: ts.drop (j + 1)) := by
    have h1 := List.take_append_drop j ts
    rw [List.drop_eq_getElem_cons hj] at h1
    rw [List.getD_eq_getElem?_getD, List.getElem?_eq_getElem hj]
    exact h1.symm
  have hne : (!(ts.getD j []).isEmpty) = true := by
    cases h2 : ts.getD j [] with
    | nil => rw [h2] at h; simp at h
    | cons _ _ => rfl
  have e2 : ne ts = ne (ts.take j) ++ (ts.getD j [] :: ne (ts.drop (j + 1))) := by
    conv => lhs; rw [e]
    unfold ne
    rw [List.filter_append, List.filter_cons_of_pos (p := fun t : List Int => !t.isEmpty) hne]
  rw [e2]
  constructor
  · simp
  · rw [List.getD_eq_getElem?_getD, List.getElem?_append_right (Nat.le_refl _), Nat.sub_self]
    rfl
theorem ne_step (ts : List (List Int)) (j : Nat) (hj : j < ts.length) : ne (ts.take (j + 1)) = ne (ts.take j) ++ (if (ts.getD j []).isEmpty then [] else [ts.getD j []]) := by
  rw [take_succ_getD ts j hj]
  unfold ne
  rw [List.filter_append]
  cases h : (ts.getD j []).isEmpty <;> simp only [List.filter_cons, List.filter_nil, h] <;> rfl
theorem isEmpty_false {t : List Int} (h : 0 < t.length) : t.isEmpty = false := by
  cases t with
  | nil => simp at h
  | cons _ _ => rfl

theorem records_new (A : Option Addr) (n c : Nat) (bs : List Int) (w : World) (hn : n = bs.length) (hr : Aside0 (ReadsInt w .u8 A n bs)) (hc : n ≤ c) (hl : n ≤ 1000000) (hw : ∀ x ∈ bs, 0 ≤ x ∧ x ≤ 255)
    (rs : List (List Int)) (z m : Nat) (hrec : Aside0 (recsF (bs.length + 1) bs 0 = (rs, z))) (hm : Aside0 (rs.length = m)) (hm2 : m ≤ 1000000) :
    Calls Try.prog 13 #[.slice A n c] w fun e w' => ∃ (A' : Option Addr) (c' : Nat), e = .returned (.tuple #[.slice A' m c', .int .i64 (z : Int)]) ∧ Aside0 (RowsRd w' A' rs) ∧ Aside0 (Below w.heap.size w w') := by
  subst hn
  refine (records_any A c bs w hr.out hc hl hw).mono ?_
  rintro e w' ⟨v, rfl, ho, hb⟩
  rw [hrec.out] at ho ⊢
  obtain ⟨A', c', rfl⟩ := ho.slice
  simp only [hm.out] at ho ⊢
  exact ⟨A', c', rfl, ⟨ho.rd (by rw [hm.out]; omega)⟩, ⟨hb⟩⟩

/-- A law of an argument that is too much answers awake. -/
theorem back_out (A : Option Addr) (n c : Nat) (ts : List (List Int)) (w : World) (hr : RowsRd w A ts) (hn : n = ts.length) (h : ¬ Small ts) :
    Calls Try.prog 8 #[.slice A n c] w fun e w' => e = .returned (.bool true) ∧ Below w.heap.size w w' := by
  have HR := Aside0.mk hr
  have HN := Aside0.mk hn
  clear hr hn
  go_enter Try.func8, Try.ntmps8
  go_wp2_with fail
  refine (small_no A n c ts _ HR.out HN.out h).mono ?_
  rintro e w1 ⟨rfl, rfl⟩
  go_wp2_with fail
  refine (awake_any _).mono ?_
  rintro e w6 ⟨rfl, hB6⟩
  have HB6 := Aside0.mk hB6
  clear hB6
  go_wp2
  go_ret
  exact ⟨rfl, HB6.out⟩

set_option maxHeartbeats 2000000 in
theorem back_walk (A : Option Addr) (n c : Nat) (ts : List (List Int)) (w : World) (hr : RowsRd w A ts) (hn : n = ts.length) (h : Small ts) (hw : ∀ t ∈ ts, ∀ x ∈ t, 0 ≤ x ∧ x ≤ 255) :
    Calls Try.prog 8 #[.slice A n c] w fun e w' => e = .returned (.bool true) ∧ Below w.heap.size w w' := by
  have HR := Aside0.mk hr
  have HS := Aside0.mk h
  have HN := Aside0.mk hn
  have HW := Aside0.mk hw
  have hn30 : n ≤ 30 := by rw [hn]; exact h.2
  have hlb := laidB_le ts h
  clear hr h hn hw
  go_enter Try.func8, Try.ntmps8
  go_wp2_with fail
  refine (small_yes A n c ts _ HR.out HN.out HS.out).mono ?_
  rintro e w1 ⟨rfl, rfl⟩
  go_wp2_with fail
  refine (laid_any A n c ts _ HR.out HN.out HS.out HW.out).mono ?_
  rintro e w1 ⟨A1, c1, A2, c2, bs, es, rfl, hbs, hes, ho1, ho2, hB1⟩
  go_wp2_with fail
  refine (bytes_new A1 _ c1 bs _ rfl (own_reads' ho1.out) (by rw [hbs.out]; omega)).mono ?_
  rintro e w2 ⟨v, rfl, ho, hB2⟩
  obtain ⟨A3, c3, rfl, hr3⟩ := own_reads ho.out
  have HR3 := Aside0.mk hr3
  have HB2 := Aside0.mk (hB1.out.trans (hB2.out.mono hB1.out.size))
  clear hr3
  obtain ⟨m, hm⟩ : ∃ m, (ne ts).length = m := ⟨_, rfl⟩
  have hm30 : m ≤ 30 := by rw [← hm]; have h1 := ne_le ts; have h2 := HN.out; omega
  have hme : es.length = m := by rw [hes.out, endsB_length, hm]
  have HREC := Aside0.mk (show recsF (bs.length + 1) bs 0 = (ne ts, bs.length) by
    have h1 := recs_stop (ne ts) (ne_body ts HS.out) [] (next1_nil _)
    rw [List.append_nil, ← laidB_flat, ← hbs.out] at h1
    exact h1)
  have HM := Aside0.mk hm
  clear hm
  go_wp2_with fail
  refine (records_new A3 _ c3 bs _ rfl HR3 (own_le ho.out) (by rw [hbs.out]; omega) (by rw [hbs.out]; exact laid_bytes ts HW.out) (ne ts) bs.length m HREC HM (by omega)).mono ?_
  rintro e w3 ⟨A4, c4, rfl, HRO, hB3⟩
  have HB3 := Aside0.mk (HB2.out.trans (hB3.out.mono HB2.out.size))
  have HR5 := Aside0.mk (HR.out.below HB3.out)
  have hmm : (m != es.length) = false := by rw [bne_eq_false_iff_eq]; exact hme.symm
  have hmm2 : ((m : Int) != (es.length : Int)) = false := by rw [bne_eq_false_iff_eq]; omega
  have HME := Aside0.mk hme
  clear hme
  have HBS := Aside0.mk hbs.out
  have hbl : bs.length ≤ 90420 := by rw [hbs.out]; exact hlb
  go_wp2_with fail
  go_loopw [7, 8, 9] (fun x y u wr => ∃ (j i q : Nat), u = .int .i64 (j : Int) ∧ x = .int .i64 (i : Int) ∧ y = .int .i64 (q : Int) ∧ j ≤ n ∧ i ≤ m ∧ q ≤ 90420 ∧ Aside0 (i = (ne (ts.take j)).length) ∧ Aside0 (q = (laidB (ts.take j)).length) ∧ Aside0 (Below w3.heap.size w3 wr)) (fun _ _ u _ => n - (intOf u).toNat)
  case atStart => exact ⟨0, 0, 0, rfl, rfl, rfl, by omega, by omega, by omega, ⟨by simp [ne]⟩, ⟨by simp [laidB]⟩, ⟨Below.refl _ _⟩⟩
  case round =>
    obtain ⟨j, i, q, rfl, rfl, rfl, hj, hi, hq, HI, HQ, HBr⟩ := hrel
    by_cases hlt : j < n
    · have hits : j < ts.length := by have := HN.out; omega
      obtain ⟨ad, A6, c6, rfl, hcell, hr6, hc6⟩ := HR5.out.2 j hits
      replace hcell := pw_cell_below HBr.out hcell
      obtain ⟨t, ht⟩ : ∃ t, ts.getD j [] = t := ⟨_, rfl⟩
      rw [ht] at hcell hr6
      have HT := Aside0.mk ht
      have htl : t.length ≤ 3000 := by rw [← ht]; exact HS.out.1 _ (getD_mem hits)
      have HR6 := Aside0.mk (hr6.below HBr.out)
      clear hr6 hc6 ht
      by_cases h0 : 0 < t.length
      · have hz0 : ((t.length : Int) == 0) = false := by rw [beq_eq_false_iff_ne]; omega
        obtain ⟨n1, n2⟩ := ne_at ts j hits (by rw [HT.out]; exact h0)
        rw [← HI.out, HM.out] at n1
        rw [← HI.out, HT.out] at n2
        obtain ⟨ad7, A7, c7, rfl, hcell7, hr7, hc7⟩ := HRO.out.2 i (by rw [HM.out]; exact n1)
        replace hcell7 := pw_cell_below HBr.out hcell7
        rw [n2] at hcell7 hr7
        have hs1 := fun k => str_reads (c := c7) ((hr7.below HBr.out).below (pw_below_drewN (Below.refl _ _) k))
        have hs2 := fun k => str_reads (c := c6) (HR6.out.below (pw_below_drewN (Below.refl _ _) k))
        have HSTEP := Aside0.mk (show (laidB (ts.take (j + 1))).length = q + (recB t).length ∧ (ne (ts.take (j + 1))).length = i + 1 by
          rw [ne_step ts j hits, HT.out, isEmpty_false h0, take_succ_getD ts j hits, laidB_snoc, HT.out, isEmpty_false h0, HQ.out, HI.out]
          simp)
        have HQ2 := Aside0.mk (show (laidB (ts.take (j + 1))).length ≤ 90420 from laidB_le _ ⟨fun u hu => HS.out.1 u (List.mem_of_mem_take hu), by have := HS.out.2; simp only [List.length_take]; omega⟩)
        have hq3 : q + (recB t).length ≤ 90420 := by rw [← HSTEP.out.1]; exact HQ2.out
        clear hr7 hc7 n2
        go_wp2_with fail
        go_quiet (fail)
        go_wp2_with fail
        refine (size_yes t.length _ h0 (by omega)).mono ?_
        rintro e w5 ⟨sz, rfl, hsz, hB5⟩
        have hszr : sz = (recB t).length := by rw [hsz.out, recB_length]
        have hsq : q + sz ≤ 90420 := by rw [hszr]; exact hq3
        have HSZ := Aside0.mk hszr
        clear hszr
        go_wp2
        go_roundw
        case rel =>
          refine ⟨j + 1, i + 1, q + sz, by go_num, by go_num, by go_num, by omega, by omega, by omega, ⟨HSTEP.out.2.symm⟩, ⟨by rw [HSTEP.out.1, HSZ.out]⟩, ⟨?_⟩⟩
          have c1 := pw_below_drewN HBr.out nq
          exact c1.trans (hB5.out.mono c1.size)
        case measure => simp [intOf]; omega
      · have hz0 : ((t.length : Int) == 0) = true := by rw [beq_iff_eq]; omega
        have hem := Aside0.mk (List.eq_nil_of_length_eq_zero (l := t) (by omega))
        go_wp2
        go_roundw
        case rel =>
          refine ⟨j + 1, i, q, by go_num, rfl, rfl, by omega, hi, hq, ⟨?_⟩, ⟨?_⟩, HBr⟩
          · rw [ne_step ts j hits, HT.out, hem.out, HI.out]; simp
          · rw [take_succ_getD ts j hits, laidB_snoc, HT.out, hem.out, HQ.out]; simp
        case measure => simp [intOf]; omega
    · have hqe : ((q : Int) == (bs.length : Int)) = true := by
        rw [beq_iff_eq, HQ.out, HBS.out, List.take_of_length_le (by have := HN.out; omega)]
      go_wp2_with fail
      refine (awake_any _).mono ?_
      rintro e w6 ⟨rfl, hB6⟩
      have HB6 := Aside0.mk hB6
      clear hB6
      go_wp2
      go_ret
      have c1 := HB3.out.trans (HBr.out.mono HB3.out.size)
      exact ⟨rfl, c1.trans (HB6.out.mono c1.size)⟩
end Go.Proofs.Ytkmhifacpkiefaa
