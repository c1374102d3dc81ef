/- The law LexBlanks. -/
import Derived.Test.YteipadogmdppgaaDoorLJoins
import Derived.Test.YteipadogmdppgaaDoorPlace
namespace Go.Proofs.YteipadogmdppgaaDoor
set_option linter.unusedVariables false
set_option linter.unusedSimpArgs false
open Go.RowKit Go.Proofs.YteipadogmdppgaaDoorW.PrintWords

theorem tokens_rel (w3 : World) (s : ByteArray) (w : World) (hs : s.size ≤ 16384) (hT : Aside0 (Tabs w3)) (hb : Aside0 (Below w3.heap.size w3 w)) (L : List (Nat × Nat × Nat)) (hR : Aside0 (toksA 0 (bs s) = (L, none))) :
    Calls Tryd.prog 11 #[.string s] w fun e w' => ∃ A c, e = .returned (.tuple #[.slice A L.length c, .int .i64 0, .int .i64 0]) ∧ Aside0 (TR s w' A L) ∧ Aside0 (Below w3.heap.size w3 w') :=
  (tokens_ok s w hs (tabs_below hT.out hb.out) L hR).mono fun _ _ ⟨A, c, h1, h2, h3⟩ => ⟨A, c, h1, h2, ⟨hb.out.trans (h3.out.mono hb.out.size)⟩⟩

theorem blank_size : ∀ m, m < 4 → (blankL.getD m ByteArray.empty).size ≤ 11 := by decide
theorem blank_ix4 (m : Nat) (h : m < 4) : (#[Value.string ⟨#[32]⟩, .string ⟨#[10]⟩, .string ⟨#[9, 13]⟩, .string ⟨#[47, 47, 32, 104, 111, 112, 32, 59, 32, 123, 10]⟩] : Array Value)[m]? = some (.string (blankL.getD m ByteArray.empty)) := by
  have hc : m = 0 ∨ m = 1 ∨ m = 2 ∨ m = 3 := by omega
  rcases hc with rfl | rfl | rfl | rfl <;> rfl

theorem blank_index (m : Nat) (h : m < 4) (W : World) : (Instr.index 31 (.agg #[.string ⟨#[32]⟩, .string ⟨#[10]⟩, .string ⟨#[9, 13]⟩, .string ⟨#[47, 47, 32, 104, 111, 112, 32, 59, 32, 123, 10]⟩]) (.int .i64 (m : Int))).run Tryd.prog W = .ok (.string (blankL.getD m ByteArray.empty)) W := by
  have hc : m = 0 ∨ m = 1 ∨ m = 2 ∨ m = 3 := by omega
  rcases hc with rfl | rfl | rfl | rfl
  all_goals first
    | rfl
    | (go_simp; done)
    | (go_simp; rfl)

set_option maxRecDepth 100000 in
set_option maxHeartbeats 4000000 in
theorem lexblanks_run (s : ByteArray) (a1 a2 : Int) (w : World) (hs : s.size ≤ 3000) (L : List (Nat × Nat × Nat)) (hL : Aside0 (toksA 0 (bs s) = (L, none))) (hl0 : 0 < L.length) (hT : Tabs w) :
    Calls Tryd.prog 4 #[.string s, .int .i64 a1, .int .i64 a2] w fun e w' => e = .returned (.bool true) ∧ Below w.heap.size w w' := by
  have HT := Aside0.mk hT
  clear hT
  have hb1 : decide (3000 < s.size) = false := decide_eq_false (by omega)
  have hb2 : decide ((3000 : Int) < (s.size : Int)) = false := decide_eq_false (by omega)
  go_enter Tryd.func4, Tryd.ntmps4
  go_wp2_with fail
  refine (tokens_ok s _ (by omega) HT.out L hL).mono ?_
  rintro e w1 ⟨A1, c1, rfl, HA1, HB1⟩
  have hlm := HA1.out.1
  obtain ⟨N, hN⟩ : ∃ N, L.length = N := ⟨_, rfl⟩
  rw [hN] at hlm hl0 ⊢
  have HN := Aside0.mk hN
  have hn0 : ((N : Int) == 0) = false := by rw [beq_eq_false_iff_ne]; omega
  have hN4 : N ≤ 3000 := by
    have h1 := (toks_steps _ 0 (bs s) (Nat.le_refl _)).1 L hL.out
    rw [Nat.zero_add, bs_length] at h1
    have := steps_count h1
    omega
  clear hN
  go_wp2_with fail
  refine (place_any a1 N _ hl0 hlm).mono ?_
  rintro e w2 ⟨k, rfl, hk, rfl⟩
  go_wp2_with fail
  refine (place_any a2 4 _ (by omega) (by omega)).mono ?_
  rintro e w2 ⟨m, rfl, hm, rfl⟩
  obtain ⟨bl, hbl⟩ : ∃ bl, blankL.getD m ByteArray.empty = bl := ⟨_, rfl⟩
  have hix := fun W => blank_index m hm W
  simp only [hbl] at hix
  have hbs := blank_size m hm
  rw [hbl] at hbs
  have HBL := Aside0.mk hbl
  have hm2 : (m : Int) < 4 := by omega
  go_wp2_with fail
  obtain ⟨g, rfl, hcell⟩ := HA1.out.2 (by rw [HN.out]; exact hl0)
  obtain ⟨⟨kd0, a, n0⟩, hget⟩ : ∃ t, L[k]? = some t := ⟨L[k]'(by rw [HN.out]; exact hk), List.getElem?_eq_getElem _⟩
  have hc2 := (hcell k _ hget).2.2
  simp only at hc2
  have hrow0 := blank_row s L k m _ hL.out hget hm bl k kd0 a n0 hget
  have has := hrow0.1
  simp only at has
  obtain ⟨t1, ht1⟩ : ∃ t, s.extract 0 a = t := ⟨_, rfl⟩
  obtain ⟨t2, ht2⟩ : ∃ t, s.extract a s.size = t := ⟨_, rfl⟩
  obtain ⟨u1, hu1⟩ : ∃ u, t1 ++ bl = u := ⟨_, rfl⟩
  obtain ⟨u2, hu2⟩ : ∃ u, u1 ++ t2 = u := ⟨_, rfl⟩
  have hz1 : t1.size = a := by rw [← ht1]; exact ex_size _ _ _ has
  have hz2 : t2.size ≤ 3000 := by rw [← ht2, ex_size _ _ _ (Nat.le_refl _)]; omega
  have hz3 : u1.size ≤ 3011 := by rw [← hu1, ByteArray.size_append]; omega
  have hz4 : u2.size ≤ 6011 := by rw [← hu2, ByteArray.size_append]; omega
  have hs1 : ¬ (9223372036854775807 < t1.size + bl.size) := by omega
  have hs2 : ¬ (9223372036854775807 < u1.size + t2.size) := by omega
  have HU : Aside0 (s.extract 0 a ++ bl ++ s.extract a s.size = u2) := ⟨by rw [ht1, ht2, hu1, hu2]⟩
  obtain ⟨M, hM⟩ : ∃ M, L.take k ++ (L.drop k).map (shT bl.size) = M := ⟨_, rfl⟩
  have HM := Aside0.mk hM
  have HZ : Aside0 (toksA 0 (bs u2) = (M, none)) := ⟨by
    have := blanks_pure s L k m _ hL.out hget hm
    simp only at this
    rw [HBL.out, HU.out, hM] at this
    exact this⟩
  have hML : M.length = N := by
    rw [← hM, List.length_append, List.length_map, List.length_take, List.length_drop, HN.out]
    omega
  have HML := Aside0.mk hML
  have HGET := Aside0.mk hget
  have HCV := Aside0.mk (fun W (hW : Below w1.heap.size w1 W) => pw_cell_below hW hc2)
  have HD := Aside0.mk (show Below w1.heap.size w1 w1.drew from (Below.refl _ _).drew)
  have hcb0 := HCV.out _ HD.out
  have HTW := Aside0.mk (tabs_below HT.out HB1.out)
  have has2 : (a : Int) ≤ (s.size : Int) := by omega
  clear hcell hget hrow0 hM hML
  go_cut [12, 13, 14] (fun x y z wc => ∃ A c, x = .slice A N c ∧ y = .int .i64 0 ∧ z = .int .i64 0 ∧ Aside0 (TR u2 wc A M) ∧ Aside0 (Below w1.heap.size w1 wc))
  case first =>
    go_region_held (fun W => W.cell? ⟨g, k * 3 + 2, none⟩ = some (.int .i64 (a : Int))) (exact HCV.out _ (Aside0.out (by assumption)))
      (first
        | (go_at_call 11; refine (tokens_rel w1 u2 _ (by omega) HTW (by assumption) M HZ).mono ?_; rintro e wp ⟨A2, c2, rfl, hA2, hBp⟩; have hcb := HCV.out _ hBp.out))
    all_goals
      go_wp2
      go_meet
    exact ⟨A2, c2, by rw [HML.out], rfl, rfl, hA2, hBp⟩
  case rest =>
    obtain ⟨A2, c2, rfl, rfl, rfl, hA2, HBc⟩ := hcut
    clear hs1 hs2 hcb0 hc2 ht1 ht2 hu1 hu2 hz1 hz2 hz3 hz4 has2
    replace HA1 := Aside0.mk (HA1.out.below HBc.out)
    have HB2 := Aside0.mk (HB1.out.trans (HBc.out.mono HB1.out.size))
    clear HB1 HBc HCV HD
    go_wp2_with fail
    go_loopw [15] (fun u wr => ∃ i : Nat, u = .int .i64 (i : Int) ∧ i ≤ N ∧ Aside0 (Below wc.heap.size wc wr)) (fun u _ => N - (intOf u).toNat)
    case atStart => exact ⟨0, rfl, by omega, ⟨Below.refl _ _⟩⟩
    case round =>
      obtain ⟨i, rfl, hi, HBr⟩ := hrel
      have HB9 := Aside0.mk (HB2.out.trans (HBr.out.mono HB2.out.size))
      by_cases hlt : i < N
      · obtain ⟨⟨kd, p, n⟩, hg2⟩ : ∃ t, L[i]? = some t := ⟨L[i]'(by rw [HN.out]; exact hlt), List.getElem?_eq_getElem _⟩
        obtain ⟨r0, r1, r2, r3⟩ := blank_row s L k m _ hL.out HGET.out hm bl i kd p n hg2
        obtain ⟨g1, hg1, hcell1⟩ := HA1.out.2 (by rw [HN.out]; omega)
        obtain ⟨g3, rfl, hcell3⟩ := hA2.out.2 (by rw [HML.out]; omega)
        cases hg1
        rw [HM.out] at r2
        simp only at r3
        rw [HU.out] at r3
        obtain ⟨x0, x1, x2⟩ := hcell1 i _ hg2
        obtain ⟨z0, z1, z2⟩ := hcell3 i _ r2
        simp only at x0 x1 x2 z0 z1 z2
        rw [r3] at z1
        obtain ⟨tx, htx⟩ : ∃ tx, s.extract p (p + n) = tx := ⟨_, rfl⟩
        rw [htx] at x1 z1
        replace x0 := fun j => pw_cell_below (pw_below_drewN (Below.refl wr.heap.size wr) j) (pw_cell_below HBr.out x0)
        replace x1 := fun j => pw_cell_below (pw_below_drewN (Below.refl wr.heap.size wr) j) (pw_cell_below HBr.out x1)
        have x2' := pw_cell_below HBr.out x2
        replace z0 := fun j => pw_cell_below (pw_below_drewN (Below.refl wr.heap.size wr) j) (pw_cell_below HBr.out z0)
        replace z1 := fun j => pw_cell_below (pw_below_drewN (Below.refl wr.heap.size wr) j) (pw_cell_below HBr.out z1)
        replace z2 := fun j => pw_cell_below (pw_below_drewN (Below.refl wr.heap.size wr) j) (pw_cell_below HBr.out z2)
        by_cases hik : i < k
        · rw [if_pos hik] at z2
          have hd1 : decide ((k : Int) ≤ (i : Int)) = false := decide_eq_false (by omega)
          have hd2 : decide (k ≤ i) = false := decide_eq_false (by omega)
          clear hcell1 hcell3 r0 r1 r2 r3 htx hg2 x2
          go_wp2_with fail
          go_quiet (fail)
          have HB5 : Aside0 (Below wc.heap.size wc (wr.drewN nq)) := ⟨HBr.out.trans ((pw_below_drewN (Below.refl wr.heap.size wr) nq).mono HBr.out.size)⟩
          go_wp2
          go_roundw
          case rel => exact ⟨i + 1, by go_num, by omega, HB5⟩
          case measure => simp [intOf]; omega
        · rw [if_neg hik] at z2
          obtain ⟨q, hq⟩ : ∃ q, p + bl.size = q := ⟨_, rfl⟩
          rw [hq] at z2
          have hqi : (p : Int) + (bl.size : Int) = (q : Int) := by omega
          have hqb : q ≤ 3011 := by omega
          have hd1 : decide ((k : Int) ≤ (i : Int)) = true := decide_eq_true (by omega)
          have hd2 : decide (k ≤ i) = true := decide_eq_true (by omega)
          clear hcell1 hcell3 r0 r1 r2 r3 htx hg2 x2 hq
          go_wp2_with fail
          go_quiet (fail)
          have HB5 : Aside0 (Below wc.heap.size wc (wr.drewN nq)) := ⟨HBr.out.trans ((pw_below_drewN (Below.refl wr.heap.size wr) nq).mono HBr.out.size)⟩
          go_wp2
          go_roundw
          case rel => exact ⟨i + 1, by go_num, by omega, HB5⟩
          case measure => simp [intOf]; omega
      · go_wp2_with fail
        refine (awake_any _ (tabs_below HT.out HB9.out)).mono ?_
        rintro e w4 ⟨rfl, hB4⟩
        have HB4 := Aside0.mk (HB9.out.trans (hB4.mono HB9.out.size))
        clear hB4
        go_wp2
        go_ret
        exact ⟨rfl, HB4.out⟩

set_option maxRecDepth 100000 in
set_option maxHeartbeats 2000000 in
theorem lexblanks_walk (s : ByteArray) (a1 a2 : Int) (w : World) (hs : s.size ≤ 140737488351232) (ha1 : -9223372036854775808 ≤ a1 ∧ a1 ≤ 9223372036854775807) (ha2 : -9223372036854775808 ≤ a2 ∧ a2 ≤ 9223372036854775807) (hT : Tabs w) :
    Calls Tryd.prog 4 #[.string s, .int .i64 a1, .int .i64 a2] w fun e w' => e = .returned (.bool true) ∧ Below w.heap.size w w' := by
  by_cases hb : 3000 < s.size
  · have HT := Aside0.mk hT
    clear hT
    have hb1 : decide (3000 < s.size) = true := decide_eq_true hb
    have hb2 : decide ((3000 : Int) < (s.size : Int)) = true := decide_eq_true (by omega)
    go_enter Tryd.func4, Tryd.ntmps4
    go_wp2_with fail
    refine (awake_any _ HT.out).mono ?_
    rintro e w1 ⟨rfl, hB1⟩
    have HB1 := Aside0.mk hB1
    clear hB1
    go_wp2
    go_ret
    exact ⟨rfl, HB1.out⟩
  · obtain ⟨L, E, hL⟩ : ∃ L E, toksA 0 (bs s) = (L, E) := ⟨_, _, rfl⟩
    cases E with
    | some ae =>
      obtain ⟨a, er⟩ := ae
      have hne := err_ne s L a er hL
      have HT := Aside0.mk hT
      have HL := Aside0.mk hL
      have hb1 : decide (3000 < s.size) = false := decide_eq_false hb
      have hb2 : decide ((3000 : Int) < (s.size : Int)) = false := decide_eq_false (by omega)
      have hq1 : ((er : Int) != 0) = true := by rw [bne_iff_ne]; omega
      clear hT hL hne
      go_enter Tryd.func4, Tryd.ntmps4
      go_wp2_with fail
      refine (tokens_err s _ (by omega) HT.out L a er HL).mono ?_
      rintro e w1 ⟨rfl, HB1⟩
      go_wp2_with fail
      refine (awake_any _ (tabs_below HT.out HB1.out)).mono ?_
      rintro e w2 ⟨rfl, hB2⟩
      have HB2 := Aside0.mk (HB1.out.trans (hB2.mono HB1.out.size))
      clear hB2
      go_wp2
      go_ret
      exact ⟨rfl, HB2.out⟩
    | none =>
      rcases Nat.eq_zero_or_pos L.length with h0 | h0
      · have hnil : L = [] := List.eq_nil_of_length_eq_zero h0
        subst hnil
        have HT := Aside0.mk hT
        have HL := Aside0.mk hL
        have hb1 : decide (3000 < s.size) = false := decide_eq_false hb
        have hb2 : decide ((3000 : Int) < (s.size : Int)) = false := decide_eq_false (by omega)
        clear hT hL
        go_enter Tryd.func4, Tryd.ntmps4
        go_wp2_with fail
        refine (tokens_ok s _ (by omega) HT.out [] HL).mono ?_
        rintro e w1 ⟨A, c, rfl, _, HB1⟩
        simp only [List.length_nil]
        go_wp2_with fail
        refine (awake_any _ (tabs_below HT.out HB1.out)).mono ?_
        rintro e w2 ⟨rfl, hB2⟩
        have HB2 := Aside0.mk (HB1.out.trans (hB2.mono HB1.out.size))
        clear hB2
        go_wp2
        go_ret
        exact ⟨rfl, HB2.out⟩
      · exact lexblanks_run s a1 a2 w (by omega) L ⟨hL⟩ h0 hT
end Go.Proofs.YteipadogmdppgaaDoor
