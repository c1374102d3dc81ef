/- The law WalJoins' walk. -/
import Derived.Test.YtkmhifacpkiefaaWZerosLaw
import Derived.Test.YtkmhifacpkiefaaWRowsIn
namespace Go.Proofs.Ytkmhifacpkiefaa
set_option linter.unusedVariables false
set_option linter.unusedSimpArgs false
open Go.RowKit Go.Proofs.YtkmhifacpkiefaaW.PrintWords

theorem joins_out (A : Option Addr) (n c : Nat) (ts : List (List Int)) (A2 : Option Addr) (n2 c2 : Nat) (us : List (List Int)) (w : World) (hr : RowsRd w A ts) (hn : n = ts.length) (hr2 : RowsRd w A2 us) (hn2 : n2 = us.length) (h : ¬ Small ts ∨ ¬ Small us) :
    Calls Try.prog 6 #[.slice A n c, .slice A2 n2 c2] w fun e w' => e = .returned (.bool true) ∧ Below w.heap.size w w' := by
  have HR := Aside0.mk hr
  have HN := Aside0.mk hn
  have HR2 := Aside0.mk hr2
  have HN2 := Aside0.mk hn2
  clear hr hn hr2 hn2
  by_cases h1 : Small ts
  · have h2 : ¬ Small us := by
      rcases h with h | h
      · exact absurd h1 h
      · exact h
    go_enter Try.func6, Try.ntmps6
    go_wp2_with fail
    refine (small_yes A n c ts _ HR.out HN.out h1).mono ?_
    rintro e w1 ⟨rfl, rfl⟩
    go_wp2_with fail
    refine (small_no A2 n2 c2 us _ HR2.out HN2.out h2).mono ?_
    rintro e w1 ⟨rfl, rfl⟩
    go_wp2_with fail
    refine (awake_any _).mono ?_
    rintro e w6 ⟨rfl, hB6⟩
    have HB6 := Aside0.mk hB6
    clear hB6
    go_wp2
    go_ret
    exact ⟨rfl, HB6.out⟩
  · go_enter Try.func6, Try.ntmps6
    go_wp2_with fail
    refine (small_no A n c ts _ HR.out HN.out h1).mono ?_
    rintro e w1 ⟨rfl, rfl⟩
    go_wp2_with fail
    refine (awake_any _).mono ?_
    rintro e w6 ⟨rfl, hB6⟩
    have HB6 := Aside0.mk hB6
    clear hB6
    go_wp2
    go_ret
    exact ⟨rfl, HB6.out⟩

theorem getD_right (a b : List (List Int)) (i : Nat) : (a ++ b).getD (a.length + i) [] = b.getD i [] := by
  rw [List.getD_eq_getElem?_getD, List.getD_eq_getElem?_getD, List.getElem?_append_right (by omega), Nat.add_sub_cancel_left]

set_option maxHeartbeats 1000000 in
theorem joins_walk (A : Option Addr) (n c : Nat) (ts : List (List Int)) (A2 : Option Addr) (n2 c2 : Nat) (us : List (List Int)) (w : World) (hr : RowsRd w A ts) (hn : n = ts.length) (hr2 : RowsRd w A2 us) (hn2 : n2 = us.length) (h : Small ts) (h2 : Small us)
    (hw : ∀ t ∈ ts, ∀ x ∈ t, 0 ≤ x ∧ x ≤ 255) (hw2 : ∀ t ∈ us, ∀ x ∈ t, 0 ≤ x ∧ x ≤ 255) :
    Calls Try.prog 6 #[.slice A n c, .slice A2 n2 c2] w fun e w' => e = .returned (.bool true) ∧ Below w.heap.size w w' := by
  have HR := Aside0.mk hr
  have HN := Aside0.mk hn
  have HR2 := Aside0.mk hr2
  have HN2 := Aside0.mk hn2
  have HS := Aside0.mk h
  have HS2 := Aside0.mk h2
  have HW := Aside0.mk hw
  have HW2 := Aside0.mk hw2
  have hlb := laidB_le ts h
  have hlb2 := laidB_le us h2
  clear hr hn hr2 hn2 h h2 hw hw2
  go_enter Try.func6, Try.ntmps6
  go_wp2_with fail
  refine (small_yes A n c ts _ HR.out HN.out HS.out).mono ?_
  rintro e w1 ⟨rfl, rfl⟩
  go_wp2_with fail
  refine (small_yes A2 n2 c2 us _ HR2.out HN2.out HS2.out).mono ?_
  rintro e w1 ⟨rfl, rfl⟩
  go_wp2_with fail
  refine (laid_any A n c ts _ HR.out HN.out HS.out HW.out).mono ?_
  rintro e w1 ⟨A3, c3, A4, c4, bs, es, rfl, hbs, hes, ho3, ho4, hB1⟩
  go_wp2_with fail
  refine (laid_any A2 n2 c2 us _ (HR2.out.below hB1.out) HN2.out HS2.out HW2.out).mono ?_
  rintro e w2 ⟨A5, c5, A6, c6, cs, fs, rfl, hcs, hfs, ho5, ho6, hB2⟩
  have HB2 := Aside0.mk (hB1.out.trans (hB2.out.mono hB1.out.size))
  have HBS := Aside0.mk (pw_own_below ho3.out hB2.out)
  have hbl : bs.length ≤ 90420 := by rw [hbs.out]; exact hlb
  have hcl : cs.length ≤ 90420 := by rw [hcs.out]; exact hlb2
  go_wp2_with fail
  refine (bytes_new A3 _ c3 bs _ rfl (own_reads' HBS.out) (by omega)).mono ?_
  rintro e w3 ⟨v, rfl, ho7, hB3⟩
  have HO7 := Aside0.mk ho7.out
  have HB3 := Aside0.mk hB3.out
  have HR3 := Aside0.mk (own_reads' ho5.out)
  have HLE5 := Aside0.mk (own_le ho5.out)
  have HCB := Aside0.mk hcs.out
  have HBSE := Aside0.mk hbs.out
  have HA := Aside0.mk (show es.length = (ne ts).length by rw [hes.out, endsB_length])
  have HC := Aside0.mk (show fs.length = (ne us).length by rw [hfs.out, endsB_length])
  have ha30 : es.length ≤ 30 := by rw [HA.out]; have h1 := ne_le ts; have h2 := HS.out.2; omega
  have hc30 : fs.length ≤ 30 := by rw [HC.out]; have h1 := ne_le us; have h2 := HS2.out.2; omega
  have HBO := Aside0.mk (show ∀ t ∈ ne ts ++ ne us, Body t by
    intro t ht
    rcases List.mem_append.1 ht with h | h
    · exact ne_body ts HS.out t h
    · exact ne_body us HS2.out t h)
  have HX := Aside0.mk (show recsF ((bs ++ cs).length + 1) (bs ++ cs) 0 = (ne ts ++ ne us, bs.length + cs.length) by
    have h1 := recs_stop (ne ts ++ ne us) HBO.out [] (next1_nil _)
    have e1 : flat (ne ts ++ ne us) = bs ++ cs := by rw [HBSE.out, HCB.out, laidB_flat, laidB_flat]; unfold flat; rw [List.flatMap_append]
    rw [List.append_nil, e1, List.length_append] at h1
    rw [List.length_append]
    exact h1)
  have HY := Aside0.mk (show recsF (cs.length + 1) cs 0 = (ne us, cs.length) by
    have h1 := recs_stop (ne us) (ne_body us HS2.out) [] (next1_nil _)
    rw [List.append_nil, ← laidB_flat, ← HCB.out] at h1
    exact h1)
  have HXB := Aside0.mk (show ∀ x ∈ bs ++ cs, 0 ≤ x ∧ x ≤ 255 by
    intro x hx
    rcases List.mem_append.1 hx with hx | hx
    · rw [HBSE.out] at hx; exact laid_bytes ts HW.out x hx
    · rw [HCB.out] at hx; exact laid_bytes us HW2.out x hx)
  have HYB := Aside0.mk (show ∀ x ∈ cs, 0 ≤ x ∧ x ≤ 255 by
    intro x hx
    rw [HCB.out] at hx; exact laid_bytes us HW2.out x hx)
  have HM := Aside0.mk (show (ne ts ++ ne us).length = es.length + fs.length by rw [List.length_append, HA.out, HC.out])
  have HM2 := Aside0.mk (show (ne us).length = fs.length from HC.out.symm)
  have hxl : (bs ++ cs).length = bs.length + cs.length := List.length_append
  obtain ⟨xs, hxs⟩ : ∃ xs, bs ++ cs = xs := ⟨_, rfl⟩
  have HX2 := Aside0.mk (show recsF (xs.length + 1) xs 0 = (ne ts ++ ne us, bs.length + cs.length) by rw [← hxs]; exact HX.out)
  have HXB2 := Aside0.mk (show ∀ x ∈ xs, 0 ≤ x ∧ x ≤ 255 by rw [← hxs]; exact HXB.out)
  rw [hxs] at hxl
  have hxl2 : xs.length ≤ 1000000 := by omega
  have HXS := Aside0.mk hxs
  clear hxs hxl
  go_wp2_with (at_builtin; go_must (refine print_append_row (w0 := w2) w2.heap.size rfl _ _ 25 5 .u8 1 rfl Try.underlying25 info5 (by omega) _ bs cs A5 _ _ rfl rfl HO7.out (HR3.out.below HB3.out) HB3.out HB3.out.size (by omega) ?_); rintro v9 w9 ho9 hb9 _ _; rw [HXS.out] at ho9; have HO9 := Aside0.mk ho9; have HB9 := Aside0.mk hb9; clear ho9 hb9)
  obtain ⟨A8, c8, rfl, hr8⟩ := own_reads HO9.out
  have HR8 := Aside0.mk hr8
  clear hr8
  obtain ⟨M, hM⟩ : ∃ M, es.length + fs.length = M := ⟨_, rfl⟩
  obtain ⟨Z, hZ⟩ : ∃ Z, bs.length + cs.length = Z := ⟨_, rfl⟩
  have hM60 : M ≤ 60 := by omega
  have hZ6 : Z ≤ 1000000 := by omega
  have k1 : IntKind.i64.wrap ((es.length : Int) + (fs.length : Int)) = (M : Int) := by rw [IntWalk.i64_in _ (by omega)]; omega
  have k2 : IntKind.i64.wrap ((bs.length : Int) + (cs.length : Int)) = (Z : Int) := by rw [IntWalk.i64_in _ (by omega)]; omega
  have HX3 := Aside0.mk (show recsF (xs.length + 1) xs 0 = (ne ts ++ ne us, Z) by rw [← hZ]; exact HX2.out)
  have HM3 := Aside0.mk (show (ne ts ++ ne us).length = M by rw [← hM]; exact HM.out)
  have HMM := Aside0.mk hM
  clear hM hZ
  refine (records_new A8 _ c8 xs _ rfl HR8 (own_le HO9.out) hxl2 HXB2.out (ne ts ++ ne us) Z M HX3 HM3 (by omega)).mono ?_
  rintro e w10 ⟨A9, c9, rfl, HRA, hB10⟩
  have HB10 := Aside0.mk (HB9.out.trans (hB10.out.mono HB9.out.size))
  go_wp2_with fail
  refine (records_new A5 _ c5 cs _ rfl ⟨HR3.out.below HB10.out⟩ HLE5.out (by omega) HYB.out (ne us) cs.length fs.length HY HM2 (by omega)).mono ?_
  rintro e w11 ⟨A10, c10, rfl, HRB, hB11⟩
  have HRA2 := Aside0.mk (HRA.out.below hB11.out)
  have HB11 := Aside0.mk (HB2.out.trans ((HB10.out.trans (hB11.out.mono HB10.out.size)).mono HB2.out.size))
  go_wp2_with fail
  go_loopw [13] (fun u wr => ∃ i : Nat, u = .int .i64 (i : Int) ∧ i ≤ fs.length ∧ Aside0 (Below w11.heap.size w11 wr)) (fun u _ => fs.length - (intOf u).toNat)
  case atStart => exact ⟨0, rfl, by omega, ⟨Below.refl _ _⟩⟩
  case round =>
    obtain ⟨i, rfl, hi, HBr⟩ := hrel
    by_cases hlt : i < fs.length
    · obtain ⟨ad, A6', c6', rfl, hcell, hr6, hc6⟩ := HRA2.out.2 (es.length + i) (by have := HMM.out; have := HM3.out; omega)
      obtain ⟨ad7, A7, c7, rfl, hcell7, hr7, hc7⟩ := HRB.out.2 i (by have := HM2.out; omega)
      have e1 : (ne ts ++ ne us).getD (es.length + i) [] = (ne us).getD i [] := by rw [HA.out]; exact getD_right _ _ _
      rw [e1] at hcell hr6
      obtain ⟨t, ht⟩ : ∃ t, (ne us).getD i [] = t := ⟨_, rfl⟩
      rw [ht] at hcell hr6 hcell7 hr7
      obtain ⟨ix, hix⟩ : ∃ ix, es.length + i = ix := ⟨_, rfl⟩
      have k3 : IntKind.i64.wrap ((es.length : Int) + (i : Int)) = (ix : Int) := by rw [IntWalk.i64_in _ (by omega)]; omega
      have hixl : ix < M := by have := HMM.out; omega
      rw [hix] at hcell
      replace hcell := pw_cell_below HBr.out hcell
      replace hcell7 := pw_cell_below HBr.out hcell7
      have hs1 := fun k => str_reads (c := c7) ((hr7.below HBr.out).below (pw_below_drewN (Below.refl _ _) k))
      have hs2 := fun k => str_reads (c := c6') ((hr6.below HBr.out).below (pw_below_drewN (Below.refl _ _) k))
      clear hr6 hr7 hc6 hc7 e1 ht hix
      go_wp2_with fail
      go_quiet (fail)
      go_wp2
      go_roundw
      case rel => exact ⟨i + 1, by go_num, by omega, ⟨pw_below_drewN HBr.out nq⟩⟩
      case measure => simp [intOf]; omega
    · go_wp2_with fail
      refine (awake_any _).mono ?_
      rintro e w12 ⟨rfl, hB12⟩
      have HB12 := Aside0.mk hB12
      clear hB12
      go_wp2
      go_ret
      have c1 := HB11.out.trans (HBr.out.mono HB11.out.size)
      exact ⟨rfl, c1.trans (HB12.out.mono c1.size)⟩

theorem joins_law (A : Option Addr) (n c : Nat) (ts : List (List Int)) (A2 : Option Addr) (n2 c2 : Nat) (us : List (List Int)) (w : World) (hr : RowsRd w A ts) (hn : n = ts.length) (hw : ∀ t ∈ ts, ∀ x ∈ t, 0 ≤ x ∧ x ≤ 255)
    (hr2 : RowsRd w A2 us) (hn2 : n2 = us.length) (hw2 : ∀ t ∈ us, ∀ x ∈ t, 0 ≤ x ∧ x ≤ 255) :
    Calls Try.prog 6 #[.slice A n c, .slice A2 n2 c2] w fun e w' => e = .returned (.bool true) ∧ Below w.heap.size w w' := by
  by_cases h : Small ts
  · by_cases h2 : Small us
    · exact joins_walk A n c ts A2 n2 c2 us w hr hn hr2 hn2 h h2 hw hw2
    · exact joins_out A n c ts A2 n2 c2 us w hr hn hr2 hn2 (.inr h2)
  · exact joins_out A n c ts A2 n2 c2 us w hr hn hr2 hn2 (.inl h)
end Go.Proofs.Ytkmhifacpkiefaa
