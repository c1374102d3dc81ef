/- The law LexTokens. -/
import Derived.Test.YteipadogmdppgaaDoorLNumber
namespace Go.Proofs.YteipadogmdppgaaDoor
set_option linter.unusedVariables false
set_option linter.unusedSimpArgs false
open Go.RowKit Go.Proofs.YteipadogmdppgaaDoorW.PrintWords

theorem rtokens_ok (s : ByteArray) (w : World) (hs : s.size ≤ 16384) (L : List (Nat × Nat × Nat)) (hR : Aside0 (toksA 0 (bs s) = (L, none))) :
    Calls Tryd.prog 13 #[.string s] w fun e w' => ∃ A c, e = .returned (.tuple #[.slice A L.length c, .int .i64 0, .int .i64 0]) ∧ Aside0 (TR s w' A L) ∧ Aside0 (Below w.heap.size w w') :=
  (rtokens_run s w hs L none hR).mono fun e w' ⟨v, h1, h2, h3⟩ => by
    obtain ⟨A, c, rfl, hr⟩ := toks_read h2.out
    exact ⟨A, c, h1, ⟨hr⟩, h3⟩
theorem rtokens_err (s : ByteArray) (w : World) (hs : s.size ≤ 16384) (L : List (Nat × Nat × Nat)) (a er : Nat) (hR : Aside0 (toksA 0 (bs s) = (L, some (a, er)))) :
    Calls Tryd.prog 13 #[.string s] w fun e w' => e = .returned (.tuple #[.slice none 0 0, .int .i64 (a : Int), .int .i64 (er : Int)]) ∧ Aside0 (Below w.heap.size w w') :=
  rtokens_run s w hs L (some (a, er)) hR

set_option maxRecDepth 100000 in
set_option maxHeartbeats 2000000 in
theorem lextokens_walk (s : ByteArray) (w : World) (hs : s.size ≤ 140737488351232) (hT : Tabs w) :
    Calls Tryd.prog 8 #[.string s] w fun e w' => e = .returned (.bool true) ∧ Below w.heap.size w w' := by
  have HT := Aside0.mk hT
  clear hT
  obtain ⟨v, ok, hv⟩ : ∃ v ok, numF s = (v, ok) := ⟨_, _, rfl⟩
  have HV := Aside0.mk hv
  clear hv
  by_cases hb : 16384 < s.size
  · go_enter Tryd.func8, Tryd.ntmps8
    go_wp2_with fail
    refine (tokens_big s _ hb).mono ?_
    rintro e w1 ⟨rfl, rfl⟩
    go_wp2_with fail
    refine (rtokens_big s _ hb).mono ?_
    rintro e w1 ⟨rfl, rfl⟩
    go_wp2_with fail
    go_loopw [9] (fun u wr => u = .int .i64 0 ∧ Aside0 (wr = w)) (fun _ _ => 0)
    case atStart => exact ⟨rfl, ⟨rfl⟩⟩
    case round =>
      obtain ⟨rfl, HW⟩ := hrel
      have hw := HW.out
      subst hw
      go_wp2_with fail
      refine (number_any s _ (by omega) v ok HV).mono ?_
      rintro e w2 ⟨rfl, HB2⟩
      go_wp2_with fail
      refine (rnumber_any s _ (by omega) v ok HV).mono ?_
      rintro e w3 ⟨rfl, rfl⟩
      go_wp2_with fail
      refine (awake_any _ (tabs_below HT.out HB2.out)).mono ?_
      rintro e w4 ⟨rfl, hB4⟩
      have HB4 := Aside0.mk (HB2.out.trans (hB4.mono HB2.out.size))
      clear hB4
      go_wp2
      go_ret
      exact ⟨rfl, HB4.out⟩
  · obtain ⟨L, E, hL⟩ : ∃ L E, toksA 0 (bs s) = (L, E) := ⟨_, _, rfl⟩
    have HL := Aside0.mk hL
    clear hL
    cases E with
    | some ae =>
      obtain ⟨a, er⟩ := ae
      go_enter Tryd.func8, Tryd.ntmps8
      go_wp2_with fail
      refine (tokens_err s _ (by omega) HT.out L a er HL).mono ?_
      rintro e w1 ⟨rfl, HB1⟩
      go_wp2_with fail
      refine (rtokens_err s _ (by omega) L a er HL).mono ?_
      rintro e w2 ⟨rfl, hB2⟩
      have HB2 := Aside0.mk (HB1.out.trans (hB2.out.mono HB1.out.size))
      clear hB2
      go_wp2_with fail
      go_loopw [9] (fun u wr => u = .int .i64 0 ∧ Aside0 (wr = w2)) (fun _ _ => 0)
      case atStart => exact ⟨rfl, ⟨rfl⟩⟩
      case round =>
        obtain ⟨rfl, HW⟩ := hrel
        have hw := HW.out
        subst hw
        go_wp2_with fail
        refine (number_any s _ (by omega) v ok HV).mono ?_
        rintro e w5 ⟨rfl, hB5⟩
        have HB5 := Aside0.mk (HB2.out.trans (hB5.out.mono HB2.out.size))
        clear hB5
        go_wp2_with fail
        refine (rnumber_any s _ (by omega) v ok HV).mono ?_
        rintro e w3 ⟨rfl, rfl⟩
        go_wp2_with fail
        refine (awake_any _ (tabs_below HT.out HB5.out)).mono ?_
        rintro e w4 ⟨rfl, hB4⟩
        have HB4 := Aside0.mk (HB5.out.trans (hB4.mono HB5.out.size))
        clear hB4
        go_wp2
        go_ret
        exact ⟨rfl, HB4.out⟩
    | none =>
      go_enter Tryd.func8, Tryd.ntmps8
      go_wp2_with fail
      refine (tokens_ok s _ (by omega) HT.out L HL).mono ?_
      rintro e w1 ⟨A1, c1, rfl, HA1, HB1⟩
      go_wp2_with fail
      refine (rtokens_ok s _ (by omega) L HL).mono ?_
      rintro e w2 ⟨A2, c2, rfl, HA2, hB2⟩
      have HB2 := Aside0.mk (HB1.out.trans (hB2.out.mono HB1.out.size))
      replace HA1 := Aside0.mk (HA1.out.below hB2.out)
      clear hB2
      have hlm := HA1.out.1
      obtain ⟨N, hN⟩ : ∃ N, L.length = N := ⟨_, rfl⟩
      rw [hN] at hlm ⊢
      have HN := Aside0.mk hN
      clear hN
      go_wp2_with fail
      go_loopw [9] (fun u wr => ∃ i : Nat, u = .int .i64 (i : Int) ∧ i ≤ N ∧ Aside0 (Below w2.heap.size w2 wr)) (fun u _ => N - (intOf u).toNat)
      case atStart => exact ⟨0, rfl, by omega, ⟨Below.refl _ _⟩⟩
      case round =>
        obtain ⟨i, rfl, hi, HBr⟩ := hrel
        have HB9 := Aside0.mk (HB2.out.trans (HBr.out.mono HB2.out.size))
        by_cases hlt : i < N
        · obtain ⟨⟨kd, p, n⟩, hget⟩ : ∃ t, L[i]? = some t := ⟨L[i]'(by rw [HN.out]; exact hlt), List.getElem?_eq_getElem _⟩
          obtain ⟨g1, rfl, hcell1⟩ := HA1.out.2 (by rw [HN.out]; omega)
          obtain ⟨g3, rfl, hcell3⟩ := HA2.out.2 (by rw [HN.out]; omega)
          obtain ⟨x0, x1, x2⟩ := hcell1 i _ hget
          obtain ⟨z0, z1, z2⟩ := hcell3 i _ hget
          simp only at x0 x1 x2 z0 z1 z2
          obtain ⟨tx, htx⟩ : ∃ tx, s.extract p (p + n) = tx := ⟨_, rfl⟩
          rw [htx] at x1 z1
          replace x0 := fun j => pw_cell_below (pw_below_drewN (Below.refl wr.heap.size wr) j) (pw_cell_below HBr.out x0)
          replace x1 := fun j => pw_cell_below (pw_below_drewN (Below.refl wr.heap.size wr) j) (pw_cell_below HBr.out x1)
          replace x2 := fun j => pw_cell_below (pw_below_drewN (Below.refl wr.heap.size wr) j) (pw_cell_below HBr.out x2)
          replace z0 := fun j => pw_cell_below (pw_below_drewN (Below.refl wr.heap.size wr) j) (pw_cell_below HBr.out z0)
          replace z1 := fun j => pw_cell_below (pw_below_drewN (Below.refl wr.heap.size wr) j) (pw_cell_below HBr.out z1)
          replace z2 := fun j => pw_cell_below (pw_below_drewN (Below.refl wr.heap.size wr) j) (pw_cell_below HBr.out z2)
          clear hcell1 hcell3 hget htx
          go_wp2_with fail
          go_quiet (fail)
          have HB5 : Aside0 (Below w2.heap.size w2 (wr.drewN nq)) := ⟨HBr.out.trans ((pw_below_drewN (Below.refl wr.heap.size wr) nq).mono HBr.out.size)⟩
          go_wp2
          go_roundw
          case rel => exact ⟨i + 1, by go_num, by omega, HB5⟩
          case measure => simp [intOf]; omega
        · go_wp2_with fail
          refine (number_any s _ (by omega) v ok HV).mono ?_
          rintro e w5 ⟨rfl, hB5⟩
          have HB5 := Aside0.mk (HB9.out.trans (hB5.out.mono HB9.out.size))
          clear hB5
          go_wp2_with fail
          refine (rnumber_any s _ (by omega) v ok HV).mono ?_
          rintro e w3 ⟨rfl, rfl⟩
          go_wp2_with fail
          refine (awake_any _ (tabs_below HT.out HB5.out)).mono ?_
          rintro e w4 ⟨rfl, hB4⟩
          have HB4 := Aside0.mk (HB5.out.trans (hB4.mono HB5.out.size))
          clear hB4
          go_wp2
          go_ret
          exact ⟨rfl, HB4.out⟩
end Go.Proofs.YteipadogmdppgaaDoor
