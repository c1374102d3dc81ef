/- The law WalCuts' walk. -/
import Derived.Test.YtkmhifacpkiefaaWPure3
import Derived.Test.YtkmhifacpkiefaaPlace
import Derived.Test.YtkmhifacpkiefaaWRowsIn
namespace Go.Proofs.Ytkmhifacpkiefaa
set_option linter.unusedVariables false
set_option linter.unusedSimpArgs false
open Go.RowKit Go.Proofs.YtkmhifacpkiefaaW.PrintWords

theorem flat_take_le (us : List (List Int)) (n : Nat) : (flat (us.take n)).length ≤ (flat us).length := by
  have e : us = us.take n ++ us.drop n := (List.take_append_drop n us).symm
  conv => rhs; rw [e]
  rw [flat_append, List.length_append]
  omega

theorem cuts_out (A : Option Addr) (n c : Nat) (ts : List (List Int)) (a1 : Int) (w : World) (hr : RowsRd w A ts) (hn : n = ts.length) (h : ¬ Small ts) :
    Calls Try.prog 3 #[.slice A n c, .int .i64 a1] w fun e w' => e = .returned (.bool true) ∧ Below w.heap.size w w' := by
  have HR := Aside0.mk hr
  have HN := Aside0.mk hn
  clear hr hn
  go_enter Try.func3, Try.ntmps3
  go_wp2_with fail
  refine (small_no A n c ts _ HR.out HN.out h).mono ?_
  rintro e w1 ⟨rfl, rfl⟩
  go_wp2_with fail
  refine (awake_any _).mono ?_
  rintro e w6 ⟨rfl, hB6⟩
  have HB6 := Aside0.mk hB6
  clear hB6
  go_wp2
  go_ret
  exact ⟨rfl, HB6.out⟩

set_option maxHeartbeats 2000000 in
theorem cuts_walk (A : Option Addr) (n c : Nat) (ts : List (List Int)) (a1 : Int) (w : World) (hr : RowsRd w A ts) (hn : n = ts.length) (h : Small ts) (hw : ∀ t ∈ ts, ∀ x ∈ t, 0 ≤ x ∧ x ≤ 255) :
    Calls Try.prog 3 #[.slice A n c, .int .i64 a1] w fun e w' => e = .returned (.bool true) ∧ Below w.heap.size w w' := by
  have HR := Aside0.mk hr
  have HS := Aside0.mk h
  have HN := Aside0.mk hn
  have HW := Aside0.mk hw
  have hn30 : n ≤ 30 := by rw [hn]; exact h.2
  have hlb := laidB_le ts h
  clear hr h hn hw
  go_enter Try.func3, Try.ntmps3
  go_wp2_with fail
  refine (small_yes A n c ts _ HR.out HN.out HS.out).mono ?_
  rintro e w1 ⟨rfl, rfl⟩
  go_wp2_with fail
  refine (laid_any A n c ts _ HR.out HN.out HS.out HW.out).mono ?_
  rintro e w1 ⟨A1, c1, A2, c2, bs, es, rfl, hbs, hes, ho1, ho2, hB1⟩
  have hbl : bs.length ≤ 90420 := by rw [hbs.out]; exact hlb
  have kb : IntKind.i64.wrap ((bs.length : Int) + 1) = (bs.length : Int) + 1 := IntWalk.i64_in _ (by omega)
  go_wp2_with fail
  refine (place_new a1 _ _ (by omega) (by omega)).mono ?_
  rintro e w2 ⟨k, rfl, hk, rfl⟩
  have hkb : k ≤ bs.length := by omega
  have HR1 := Aside0.mk (own_reads' ho1.out)
  have HLE1 := Aside0.mk (own_le ho1.out)
  have HR2 := Aside0.mk (own_reads' ho2.out)
  have HBF := Aside0.mk (show bs = flat (ne ts) by rw [hbs.out, laidB_flat])
  have HEF := Aside0.mk (show es = endsF 0 (ne ts) from hes.out)
  have HM := Aside0.mk (show (ne ts).length = es.length by rw [hes.out, endsB_length])
  have hm30 : es.length ≤ 30 := by rw [← HM.out]; have h1 := ne_le ts; have h2 := HN.out; omega
  obtain ⟨m, hm⟩ : ∃ m, es.length = m := ⟨_, rfl⟩
  rw [hm] at HM hm30 HR2
  rw [hm]
  have HEL := Aside0.mk hm
  have HBL := Aside0.mk hbs.out
  have HB1 := hB1
  have HBO := Aside0.mk (ne_body ts HS.out)
  obtain ⟨L, hL⟩ : ∃ L, bs.length = L := ⟨_, rfl⟩
  obtain ⟨i0, hi, _, hsz, _⟩ := info_parts info5
  obtain ⟨hcut, hrt⟩ := take_int (P := Try.prog) (k := .u8) 25 5 Try.underlying25 hi hsz A1 c1 bs k hkb HLE1.out
  have HRT := Aside0.mk (hrt _ HR1.out)
  have hcut' := fun W => hcut W (k : Int) rfl
  rw [hL] at hcut'
  rw [hL] at hkb hbl
  rw [hL]
  have HL := Aside0.mk hL
  clear hrt hi hsz hcut hm hL
  go_wp2_with fail
  go_loop [8, 9] (fun x y => ∃ (i q : Nat), x = .int .i64 (i : Int) ∧ y = .int .i64 (q : Int) ∧ i ≤ m ∧ q ≤ k ∧ Aside0 (q = (flat ((ne ts).take i)).length)) (fun x _ => m - (intOf x).toNat)
  case atStart => exact ⟨0, 0, rfl, rfl, by omega, by omega, ⟨by simp [flat]⟩⟩
  case round =>
    obtain ⟨i, q, rfl, rfl, hi, hq, HQ⟩ := hrel
    have done : ∀ (hend : i = m ∨ (i < m ∧ k < (flat ((ne ts).take (i + 1))).length)), recsF ((bs.take k).length + 1) (bs.take k) 0 = ((ne ts).take i, q) := by
      intro hend
      have h1 := cut_law (ne ts) HBO.out i k (by rw [← HQ.out]; exact hq) (by rw [HM.out]; exact hend) (by rw [← HBF.out, HL.out]; exact hkb)
      rw [← HBF.out, ← HQ.out] at h1
      exact h1
    by_cases hlt : i < m
    · obtain ⟨ad, rfl, hcell⟩ := HR2.out.at_ (i : Int) (by omega) (by omega)
      rw [Int.toNat_natCast] at hcell
      obtain ⟨z, hz⟩ : ∃ z, (flat ((ne ts).take (i + 1))).length = z := ⟨_, rfl⟩
      have hrd : rd es (i : Int) = (z : Int) := by
        have h1 := ends_at (ne ts) 0 i (by rw [HM.out]; exact hlt)
        rw [← HEF.out, Nat.zero_add, hz] at h1
        unfold rd
        rw [Int.toNat_natCast]
        exact h1
      rw [hrd] at hcell
      have HZ := Aside0.mk hz
      have HZL := Aside0.mk (show z ≤ L by rw [← hz, ← HL.out, HBF.out]; exact flat_take_le _ _)
      have hzl := HZL.out
      clear hrd hz
      by_cases hle : z ≤ k
      · go_wp2
        go_round
        case rel => exact ⟨i + 1, z, by go_num, rfl, by omega, hle, ⟨HZ.out.symm⟩⟩
        case measure => simp [intOf]; omega
      · have HD := Aside0.mk (done (.inr ⟨hlt, by rw [HZ.out]; omega⟩))
        clear done
        go_wp2_with fail
        have HMI := Aside0.mk (show ((ne ts).take i).length = i by rw [List.length_take, HM.out]; omega)
        have HTB := Aside0.mk (show ∀ x ∈ bs.take k, 0 ≤ x ∧ x ≤ 255 from fun x hx => by rw [HBL.out] at hx; exact laid_bytes ts HW.out x (List.mem_of_mem_take hx))
        refine (records_new A1 _ c1 (bs.take k) _ (by rw [List.length_take, HL.out]; omega) HRT (by have h1 := HLE1.out; rw [HL.out] at h1; omega) (by omega) HTB.out ((ne ts).take i) q i HD HMI (by omega)).mono ?_
        rintro e w3 ⟨A4, c4, rfl, HRO, hB3⟩
        have HB3 := Aside0.mk (HB1.out.trans (hB3.out.mono HB1.out.size))
        have HR5 := Aside0.mk (HR.out.below HB3.out)
        go_wp2_with fail
        go_loopw [12, 13] (fun x u wr => ∃ (j p : Nat), u = .int .i64 (j : Int) ∧ x = .int .i64 (p : Int) ∧ j ≤ n ∧ p ≤ i ∧ Aside0 (p = (ne (ts.take j)).length) ∧ Aside0 (Below w3.heap.size w3 wr)) (fun _ u _ => n - (intOf u).toNat)
        case atStart => exact ⟨0, 0, rfl, rfl, by omega, by omega, ⟨by simp [ne]⟩, ⟨Below.refl _ _⟩⟩
        case round =>
          obtain ⟨j, p, rfl, rfl, hj, hp, HI, HBr⟩ := hrel
          by_cases hltj : j < n ∧ p < i
          · obtain ⟨hltj, hltp⟩ := hltj
            have hits : j < ts.length := by have := HN.out; omega
            obtain ⟨ad3, A6, c6, rfl, hcell3, hr6, hc6⟩ := HR5.out.2 j hits
            replace hcell3 := pw_cell_below HBr.out hcell3
            obtain ⟨t, ht⟩ : ∃ t, ts.getD j [] = t := ⟨_, rfl⟩
            rw [ht] at hcell3 hr6
            have HT := Aside0.mk ht
            have htl : t.length ≤ 3000 := by rw [← ht]; exact HS.out.1 _ (getD_mem hits)
            have HR6 := Aside0.mk (hr6.below HBr.out)
            clear hr6 hc6 ht
            by_cases h0 : 0 < t.length
            · have hz0 : ((t.length : Int) == 0) = false := by rw [beq_eq_false_iff_ne]; omega
              obtain ⟨n1, n2⟩ := ne_at ts j hits (by rw [HT.out]; exact h0)
              rw [← HI.out, HT.out] at n2
              obtain ⟨ad7, A7, c7, rfl, hcell7, hr7, hc7⟩ := HRO.out.2 p (by rw [HMI.out]; exact hltp)
              replace hcell7 := pw_cell_below HBr.out hcell7
              have n3 : ((ne ts).take i).getD p [] = t := by
                rw [← n2, List.getD_eq_getElem?_getD, List.getD_eq_getElem?_getD, List.getElem?_take_of_lt hltp]
              rw [n3] at hcell7 hr7
              have hs1 := fun k => str_reads (c := c7) ((hr7.below HBr.out).below (pw_below_drewN (Below.refl _ _) k))
              have hs2 := fun k => str_reads (c := c6) (HR6.out.below (pw_below_drewN (Below.refl _ _) k))
              have HSTEP := Aside0.mk (show (ne (ts.take (j + 1))).length = p + 1 by
                rw [ne_step ts j hits, HT.out, isEmpty_false h0, HI.out]
                simp)
              clear hr7 hc7 n1 n2 n3
              go_wp2_with fail
              go_quiet (fail)
              go_wp2
              go_roundw
              case rel => exact ⟨j + 1, p + 1, by go_num, by go_num, by omega, by omega, ⟨HSTEP.out.symm⟩, ⟨pw_below_drewN HBr.out nq⟩⟩
              case measure => simp [intOf]; omega
            · have hz0 : ((t.length : Int) == 0) = true := by rw [beq_iff_eq]; omega
              have hem := Aside0.mk (List.eq_nil_of_length_eq_zero (l := t) (by omega))
              go_wp2
              go_roundw
              case rel =>
                refine ⟨j + 1, p, by go_num, rfl, by omega, hp, ⟨?_⟩, HBr⟩
                rw [ne_step ts j hits, HT.out, hem.out, HI.out]; simp
              case measure => simp [intOf]; omega
          · have hcond : j < n → ¬ p < i := fun h1 h2 => hltj ⟨h1, h2⟩
            clear hltj
            by_cases hltj : j < n
            all_goals
              try have hpi : ¬ p < i := hcond hltj
              clear hcond
              go_wp2_with fail
              refine (awake_any _).mono ?_
              rintro e w6 ⟨rfl, hB6⟩
              have HB6 := Aside0.mk hB6
              clear hB6
              go_wp2
              go_ret
              have c1 := HB3.out.trans (HBr.out.mono HB3.out.size)
              exact ⟨rfl, c1.trans (HB6.out.mono c1.size)⟩
    · have HD := Aside0.mk (done (.inl (by omega)))
      clear done
      go_wp2_with fail
      have HMI := Aside0.mk (show ((ne ts).take i).length = i by rw [List.length_take, HM.out]; omega)
      have HTB := Aside0.mk (show ∀ x ∈ bs.take k, 0 ≤ x ∧ x ≤ 255 from fun x hx => by rw [HBL.out] at hx; exact laid_bytes ts HW.out x (List.mem_of_mem_take hx))
      refine (records_new A1 _ c1 (bs.take k) _ (by rw [List.length_take, HL.out]; omega) HRT (by have h1 := HLE1.out; rw [HL.out] at h1; omega) (by omega) HTB.out ((ne ts).take i) q i HD HMI (by omega)).mono ?_
      rintro e w3 ⟨A4, c4, rfl, HRO, hB3⟩
      have HB3 := Aside0.mk (HB1.out.trans (hB3.out.mono HB1.out.size))
      have HR5 := Aside0.mk (HR.out.below HB3.out)
      go_wp2_with fail
      go_loopw [12, 13] (fun x u wr => ∃ (j p : Nat), u = .int .i64 (j : Int) ∧ x = .int .i64 (p : Int) ∧ j ≤ n ∧ p ≤ i ∧ Aside0 (p = (ne (ts.take j)).length) ∧ Aside0 (Below w3.heap.size w3 wr)) (fun _ u _ => n - (intOf u).toNat)
      case atStart => exact ⟨0, 0, rfl, rfl, by omega, by omega, ⟨by simp [ne]⟩, ⟨Below.refl _ _⟩⟩
      case round =>
        obtain ⟨j, p, rfl, rfl, hj, hp, HI, HBr⟩ := hrel
        by_cases hltj : j < n ∧ p < i
        · obtain ⟨hltj, hltp⟩ := hltj
          have hits : j < ts.length := by have := HN.out; omega
          obtain ⟨ad3, A6, c6, rfl, hcell3, hr6, hc6⟩ := HR5.out.2 j hits
          replace hcell3 := pw_cell_below HBr.out hcell3
          obtain ⟨t, ht⟩ : ∃ t, ts.getD j [] = t := ⟨_, rfl⟩
          rw [ht] at hcell3 hr6
          have HT := Aside0.mk ht
          have htl : t.length ≤ 3000 := by rw [← ht]; exact HS.out.1 _ (getD_mem hits)
          have HR6 := Aside0.mk (hr6.below HBr.out)
          clear hr6 hc6 ht
          by_cases h0 : 0 < t.length
          · have hz0 : ((t.length : Int) == 0) = false := by rw [beq_eq_false_iff_ne]; omega
            obtain ⟨n1, n2⟩ := ne_at ts j hits (by rw [HT.out]; exact h0)
            rw [← HI.out, HT.out] at n2
            obtain ⟨ad7, A7, c7, rfl, hcell7, hr7, hc7⟩ := HRO.out.2 p (by rw [HMI.out]; exact hltp)
            replace hcell7 := pw_cell_below HBr.out hcell7
            have n3 : ((ne ts).take i).getD p [] = t := by
              rw [← n2, List.getD_eq_getElem?_getD, List.getD_eq_getElem?_getD, List.getElem?_take_of_lt hltp]
            rw [n3] at hcell7 hr7
            have hs1 := fun k => str_reads (c := c7) ((hr7.below HBr.out).below (pw_below_drewN (Below.refl _ _) k))
            have hs2 := fun k => str_reads (c := c6) (HR6.out.below (pw_below_drewN (Below.refl _ _) k))
            have HSTEP := Aside0.mk (show (ne (ts.take (j + 1))).length = p + 1 by
              rw [ne_step ts j hits, HT.out, isEmpty_false h0, HI.out]
              simp)
            clear hr7 hc7 n1 n2 n3
            go_wp2_with fail
            go_quiet (fail)
            go_wp2
            go_roundw
            case rel => exact ⟨j + 1, p + 1, by go_num, by go_num, by omega, by omega, ⟨HSTEP.out.symm⟩, ⟨pw_below_drewN HBr.out nq⟩⟩
            case measure => simp [intOf]; omega
          · have hz0 : ((t.length : Int) == 0) = true := by rw [beq_iff_eq]; omega
            have hem := Aside0.mk (List.eq_nil_of_length_eq_zero (l := t) (by omega))
            go_wp2
            go_roundw
            case rel =>
              refine ⟨j + 1, p, by go_num, rfl, by omega, hp, ⟨?_⟩, HBr⟩
              rw [ne_step ts j hits, HT.out, hem.out, HI.out]; simp
            case measure => simp [intOf]; omega
        · have hcond : j < n → ¬ p < i := fun h1 h2 => hltj ⟨h1, h2⟩
          clear hltj
          by_cases hltj : j < n
          all_goals
            try have hpi : ¬ p < i := hcond hltj
            clear hcond
            go_wp2_with fail
            refine (awake_any _).mono ?_
            rintro e w6 ⟨rfl, hB6⟩
            have HB6 := Aside0.mk hB6
            clear hB6
            go_wp2
            go_ret
            have c1 := HB3.out.trans (HBr.out.mono HB3.out.size)
            exact ⟨rfl, c1.trans (HB6.out.mono c1.size)⟩

theorem cuts_law (A : Option Addr) (n c : Nat) (ts : List (List Int)) (a1 : Int) (w : World) (hr : RowsRd w A ts) (hn : n = ts.length) (hw : ∀ t ∈ ts, ∀ x ∈ t, 0 ≤ x ∧ x ≤ 255) (ha : -9223372036854775808 ≤ a1 ∧ a1 ≤ 9223372036854775807) :
    Calls Try.prog 3 #[.slice A n c, .int .i64 a1] w fun e w' => e = .returned (.bool true) ∧ Below w.heap.size w w' := by
  by_cases h : Small ts
  · exact cuts_walk A n c ts a1 w hr hn h hw
  · exact cuts_out A n c ts a1 w hr hn h
end Go.Proofs.Ytkmhifacpkiefaa
