/- The law RunesBack. -/
import Derived.Test.YtbhakfaldedinaaDoorRBackPure
import Derived.Test.YtbhakfaldedinaaDoorRAwake
namespace Go.Proofs.YtbhakfaldedinaaDoor
set_option linter.unusedVariables false
set_option linter.unusedSimpArgs false
open Go.RowKit Go.Proofs.YtbhakfaldedinaaDoorW.PrintWords

theorem take_snoc_rd (xs : List Int) (i : Nat) (h : i < xs.length) : xs.take (i + 1) = xs.take i ++ [rd xs (i : Int)] := by
  rw [List.take_succ_eq_append_getElem h, rd, Int.toNat_natCast, List.getD_eq_getElem?_getD, List.getElem?_eq_getElem h]
  rfl

theorem back_out (A : Option Addr) (c : Nat) (xs : List Int) (w : World) (hm : xs.length ≤ 9223372036854775807) (hT : Tabs w) (h : 200 < xs.length) :
    Calls Tryd.prog 9 #[.slice A xs.length c] w fun e w' => e = .returned (.bool true) ∧ Below w.heap.size w w' := by
  have HT := Aside0.mk hT
  clear hT
  go_enter Tryd.func9, Tryd.ntmps9
  go_wp2_with fail
  refine (awake_any _ HT.out).mono ?_
  rintro e w1 ⟨rfl, hB1⟩
  have HB1 := Aside0.mk hB1
  clear hB1
  go_wp2
  go_ret
  exact ⟨rfl, HB1.out⟩

set_option maxRecDepth 100000 in
set_option maxHeartbeats 1000000 in
theorem back_walk (A : Option Addr) (c : Nat) (xs : List Int) (w : World) (hr : ReadsInt w .i32 A xs.length xs) (hw : ∀ x ∈ xs, -2147483648 ≤ x ∧ x ≤ 2147483647) (hT : Tabs w) (h : xs.length ≤ 200) :
    Calls Tryd.prog 9 #[.slice A xs.length c] w fun e w' => e = .returned (.bool true) ∧ Below w.heap.size w w' := by
  have HT := Aside0.mk hT
  have HR := Aside0.mk hr
  have HW := Aside0.mk hw
  clear hT hr hw
  obtain ⟨n, hn⟩ : ∃ n, xs.length = n := ⟨_, rfl⟩
  have HR' := HR.out
  rw [hn] at HR' h
  rw [hn]
  have HRN := Aside0.mk HR'
  have HN := Aside0.mk hn
  clear HR' hn
  have hd0 : decide (200 < (n : Int)) = false := decide_eq_false (by omega)
  go_enter Tryd.func9, Tryd.ntmps9
  go_wp2_with fail
  go_loopw [3, 4, 5] (fun x y u wr => ∃ (i m : Nat) (s : ByteArray), x = .string s ∧ y = .int .i64 (m : Int) ∧ u = .int .i64 (i : Int) ∧ i ≤ n ∧ m ≤ i ∧ s.size ≤ 800 ∧ Aside0 (s = putL (goodN (xs.take i))) ∧ Aside0 (m = (goodN (xs.take i)).length) ∧ Aside0 (Below w.heap.size w wr)) (fun _ _ u _ => n - (intOf u).toNat)
  case atStart => exact ⟨0, 0, ByteArray.empty, rfl, rfl, rfl, by omega, by omega, by decide, ⟨by simp [goodN, putL]⟩, ⟨by simp [goodN]⟩, ⟨Below.refl _ _⟩⟩
  case round =>
    obtain ⟨i, m, s, rfl, rfl, rfl, hi, hmi, hs8, HS, HM, HB⟩ := hrel
    by_cases hlt : i < n
    · obtain ⟨ad, rfl, hcell⟩ := HRN.out.at_ ((i : Nat) : Int) (by omega) (by omega)
      rw [Int.toNat_natCast] at hcell
      replace hcell := pw_cell_below HB.out hcell
      have hits : i < xs.length := by rw [HN.out]; exact hlt
      have htk := take_snoc_rd xs i hits
      obtain ⟨r, hrr⟩ : ∃ r, rd xs (i : Int) = r := ⟨_, rfl⟩
      have hrm : r ∈ xs := by
        rw [← hrr, rd, Int.toNat_natCast, List.getD_eq_getElem?_getD, List.getElem?_eq_getElem hits]
        exact List.getElem_mem hits
      rw [hrr] at hcell htk
      have HRB := Aside0.mk (HW.out r hrm)
      have HTK := Aside0.mk htk
      obtain ⟨t, ht⟩ : ∃ t, putS r = t := ⟨_, rfl⟩
      have htz : t.size ≤ 4 := by rw [← ht]; exact putS_size r
      have HT1 := Aside0.mk ht
      have hsz := (putL_size (goodN (xs.take (i + 1))) (goodN_ok _)).2
      have hgl := goodN_le (xs.take (i + 1))
      have hS8 := Aside0.mk (show (putL (goodN (xs.take (i + 1)))).size ≤ 800 by
        rw [List.length_take] at hgl
        omega)
      clear hsz hgl hrr hrm htk ht
      have hsum : ¬ (9223372036854775807 < s.size + t.size) := by omega
      by_cases hok : okR r
      · have hok' := hok
        unfold okR at hok'
        obtain ⟨c1, rfl⟩ := Int.eq_ofNat_of_zero_le (show 0 ≤ r by omega)
        have HG := Aside0.mk (show nextG t 0 = (c1, t.size, true) by rw [← HT1.out]; exact nextG_put c1 hok)
        have hp1 : 1 ≤ t.size := by rw [← HT1.out]; exact putS_pos c1 hok
        have hne : t.toList.isEmpty = false := by
          cases hq : t.toList with
          | nil =>
            have h3 : t.data.toList = [] := by rw [← ByteArray.toList_eq]; exact hq
            have h4 : t.size = 0 := by show t.data.size = 0; rw [← Array.length_toList, h3]; rfl
            omega
          | cons _ _ => rfl
        have hne2 : (t.toList != []) = true := by
          rw [bne_iff_ne]
          intro hq
          rw [hq] at hne
          cases hne
        have hne3 : (t.toList == []) = false := by
          rw [beq_eq_false_iff_ne]
          intro hq
          rw [hq] at hne
          cases hne
        have HST := Aside0.mk (show putL (goodN (xs.take (i + 1))) = s ++ t ∧ (goodN (xs.take (i + 1))).length = m + 1 by
          rw [HTK.out, goodN_snoc, if_pos hok, Int.toNat_natCast, putL_snoc, ← HS.out, HT1.out, List.length_append, ← HM.out]
          exact ⟨rfl, rfl⟩)
        have hst8 : (s ++ t).size ≤ 800 := by rw [← HST.out.1]; exact hS8.out
        clear hok hok'
        go_wp2_with fail
        refine (put_any (c1 : Int) _ HRB.out).mono ?_
        rintro e w1 ⟨rfl, rfl⟩
        rw [HT1.out]
        go_wp2_with fail
        refine (next_at t 0 _ (by omega) (tabs_below HT.out HB.out) c1 t.size true HG).mono ?_
        rintro e w2 ⟨rfl, hB2⟩
        have hcell2 := pw_cell_below hB2 hcell
        have HB2 := Aside0.mk (HB.out.trans (hB2.mono HB.out.size))
        clear hB2 hcell
        go_wp2
        go_roundw
        case rel => exact ⟨i + 1, m + 1, s ++ t, rfl, by go_num, by go_num, by omega, by omega, hst8, ⟨HST.out.1.symm⟩, ⟨HST.out.2.symm⟩, HB2⟩
        case measure => simp [intOf]; omega
      · have hte : t = ByteArray.empty := by rw [← HT1.out, putS, if_neg hok]
        have HST := Aside0.mk (show putL (goodN (xs.take (i + 1))) = s ++ t ∧ (goodN (xs.take (i + 1))).length = m by
          rw [HTK.out, goodN_snoc, if_neg hok, hte, ByteArray.append_empty]
          exact ⟨HS.out.symm, HM.out.symm⟩)
        have hst8 : (s ++ t).size ≤ 800 := by rw [← HST.out.1]; exact hS8.out
        have hne3 : (t.toList == []) = true := by rw [hte, ByteArray.toList_eq]; rfl
        have hne2 : (t.toList != []) = false := by rw [hte, ByteArray.toList_eq]; rfl
        clear hok hte
        go_wp2_with fail
        refine (put_any r _ HRB.out).mono ?_
        rintro e w1 ⟨rfl, rfl⟩
        rw [HT1.out]
        go_wp2
        go_roundw
        case rel => exact ⟨i + 1, m, s ++ t, rfl, rfl, by go_num, by omega, by omega, hst8, ⟨HST.out.1.symm⟩, ⟨HST.out.2.symm⟩, HB⟩
        case measure => simp [intOf]; omega
    · have HG := Aside0.mk (show runesG s = some (goodN xs) by
        rw [HS.out, List.take_of_length_le (by rw [HN.out]; omega)]
        exact runesG_put _ (goodN_ok _))
      have HC := Aside0.mk (show countG s = m by
        rw [countG, HG.out, HM.out, List.take_of_length_le (by rw [HN.out]; omega)]
        rfl)
      go_wp2_with fail
      refine (valid_any s _ (by omega) (tabs_below HT.out HB.out) true ⟨by rw [validG_runes, HG.out]; rfl⟩).mono ?_
      rintro e w1 ⟨rfl, hB1⟩
      have HB1 := Aside0.mk (HB.out.trans (hB1.mono HB.out.size))
      clear hB1
      go_wp2_with fail
      refine (count_any s _ (by omega) (tabs_below HT.out HB1.out) m HC).mono ?_
      rintro e w2 ⟨rfl, hB2⟩
      have HB2 := Aside0.mk (HB1.out.trans (hB2.mono HB1.out.size))
      clear hB2
      go_wp2_with fail
      refine (awake_any _ (tabs_below HT.out HB2.out)).mono ?_
      rintro e w3 ⟨rfl, hB3⟩
      have HB3 := Aside0.mk (HB2.out.trans (hB3.mono HB2.out.size))
      clear hB3
      go_wp2
      go_ret
      exact ⟨rfl, HB3.out⟩

theorem runesback_walk (A : Option Addr) (c : Nat) (xs : List Int) (w : World) (hr : ReadsInt w .i32 A xs.length xs) (hc : xs.length ≤ c) (hl : xs.length * 4 ≤ 140737488351232) (hw : ∀ x ∈ xs, -2147483648 ≤ x ∧ x ≤ 2147483647) (hT : Tabs w) :
    Calls Tryd.prog 9 #[.slice A xs.length c] w fun e w' => e = .returned (.bool true) ∧ Below w.heap.size w w' := by
  by_cases h : 200 < xs.length
  · exact back_out A c xs w hr.2.1 hT h
  · exact back_walk A c xs w hr hw hT (by omega)
end Go.Proofs.YtbhakfaldedinaaDoor
