/- The law LexPlaces. -/
import Derived.Test.YteipadogmdppgaaDoorLAwake
namespace Go.Proofs.YteipadogmdppgaaDoor
set_option linter.unusedVariables false
set_option linter.unusedSimpArgs false
open Go.RowKit Go.Proofs.YteipadogmdppgaaDoorW.PrintWords

theorem Steps.base {p q : Nat} {u v : List Nat} {l : List (Nat × Nat × Nat)} (h : Steps p u l q v) : ∀ d p0, p = p0 + d → ∃ l0 q0, l = l0.map (shT d) ∧ q = q0 + d ∧ Steps p0 u l0 q0 v := by
  induction h with
  | nil p u => intro d p0 e; exact ⟨[], p0, rfl, e, .nil _ _⟩
  | @blank p u n l q v hu h r ih =>
    intro d p0 e
    obtain ⟨l0, q0, h1, h2, h3⟩ := ih d (p0 + n) (by omega)
    exact ⟨l0, q0, h1, h2, .blank hu h h3⟩
  | @tok p u k n l q v hu h r ih =>
    intro d p0 e
    obtain ⟨l0, q0, h1, h2, h3⟩ := ih d (p0 + n) (by omega)
    exact ⟨(k + 1, p0, n) :: l0, q0, by rw [List.map_cons, ← h1, e]; rfl, h2, .tok hu h h3⟩

/-- The next piece, and what is ahead of it. -/
theorem places_next (s : ByteArray) (e i : Nat) (L : List (Nat × Nat × Nat)) (he : e ≤ s.size) (h : Steps e ((bs s).drop e) (L.drop i) s.size []) (hi : i < L.length) :
    ∃ k a n, L[i]? = some (k, a, n) ∧ e ≤ a ∧ 1 ≤ n ∧ a + n ≤ s.size ∧ toksA 0 (bs (s.extract e a)) = ([], none) ∧ Steps (a + n) ((bs s).drop (a + n)) (L.drop (i + 1)) s.size [] := by
  have hd : L.drop i = L[i] :: L.drop (i + 1) := List.drop_eq_getElem_cons hi
  obtain ⟨w, h1, h2, h3, h4, h5⟩ := h.first _ _ hd
  obtain ⟨⟨k, a, n⟩, ht⟩ : ∃ t, L[i] = t := ⟨_, rfl⟩
  rw [ht] at h1 h3 h5
  simp only at h1 h3 h5
  obtain ⟨j, hj1, hj2, hj3⟩ := h1.len
  have hb := step_bound w h2 _ _ h3
  rw [List.length_drop, bs_length] at hj3
  have hwl : w.length = s.size - a := by rw [hj1, List.length_drop, List.length_drop, bs_length]; omega
  have hw : w = (bs s).drop a := by rw [hj1, List.drop_drop, hj2]
  refine ⟨k, a, n, by rw [List.getElem?_eq_getElem hi, ht], by omega, hb.2.2, by omega, ?_, by rw [hw, List.drop_drop] at h5; exact h5⟩
  have hsw := h1.swap w [] (.inl rfl) (((bs s).drop e).take (a - e)) (by rw [hw, show (bs s).drop a = ((bs s).drop e).drop (a - e) by rw [List.drop_drop]; congr 1; omega, List.take_append_drop]) rfl (by rw [List.length_take, List.length_drop, bs_length]; omega)
  rw [List.append_nil] at hsw
  obtain ⟨l0, q0, g1, g2, g3⟩ := hsw.base e 0 (by omega)
  have : l0 = [] := by cases l0 with | nil => rfl | cons a l => cases g1
  subst this
  rw [bs_extract]
  exact g3.toks_end

set_option maxRecDepth 100000 in
set_option maxHeartbeats 2000000 in
theorem lexplaces_walk (s : ByteArray) (w : World) (hs : s.size ≤ 140737488351232) (hT : Tabs w) :
    Calls Tryd.prog 3 #[.string s] w fun e w' => e = .returned (.bool true) ∧ Below w.heap.size w w' := by
  have HT := Aside0.mk hT
  clear hT
  by_cases h1 : 3000 < s.size
  · have hb1 : decide (3000 < s.size) = true := decide_eq_true h1
    have hb2 : decide ((3000 : Int) < (s.size : Int)) = true := decide_eq_true (by omega)
    go_enter Tryd.func3, Tryd.ntmps3
    go_wp2_with fail
    refine (awake_any _ HT.out).mono ?_
    rintro e w1 ⟨rfl, hB1⟩
    have HB1 := Aside0.mk hB1
    clear hB1
    go_wp2
    go_ret
    exact ⟨rfl, HB1.out⟩
  · have hb1 : decide (3000 < s.size) = false := decide_eq_false h1
    have hb2 : decide ((3000 : Int) < (s.size : Int)) = false := decide_eq_false (by omega)
    obtain ⟨L, E, hR⟩ : ∃ L E, toksA 0 (bs s) = (L, E) := ⟨_, _, rfl⟩
    have HR := Aside0.mk hR
    clear hR
    cases E with
    | some ae =>
      obtain ⟨a, er⟩ := ae
      have f2 : er ≠ 0 := by
        obtain ⟨v, h1, h2, h3⟩ := (toks_steps (bs s).length 0 (bs s) (Nat.le_refl _)).2 L a er HR.out
        rintro rfl
        unfold stepL at h3
        repeat' split at h3
        all_goals cases h3
      have hc1 : ((er : Int) == 0) = false := beq_eq_false_iff_ne.2 (by omega)
      have hc2 : ((er : Int) != 0) = true := by rw [bne, hc1]; rfl
      clear f2
      go_enter Tryd.func3, Tryd.ntmps3
      go_wp2_with fail
      refine (tokens_err s _ (by omega) HT.out L a er HR).mono ?_
      rintro e w1 ⟨rfl, HB1⟩
      go_wp2_with fail
      refine (awake_any _ (tabs_below HT.out HB1.out)).mono ?_
      rintro e w2 ⟨rfl, hB2⟩
      have HB2 := Aside0.mk (HB1.out.trans (hB2.mono HB1.out.size))
      clear hB2
      go_wp2
      go_ret
      exact ⟨rfl, HB2.out⟩
    | none =>
      have HS := Aside0.mk ((toks_steps (bs s).length 0 (bs s) (Nat.le_refl _)).1 L HR.out)
      rw [Nat.zero_add, bs_length] at HS
      go_enter Tryd.func3, Tryd.ntmps3
      go_wp2_with fail
      refine (tokens_ok s _ (by omega) HT.out L HR).mono ?_
      rintro e w1 ⟨A, c, rfl, HA, HB1⟩
      have hlm := HA.out.1
      obtain ⟨N, hN⟩ : ∃ N, L.length = N := ⟨_, rfl⟩
      rw [hN] at hlm ⊢
      have HN := Aside0.mk hN
      clear hN
      go_wp2_with fail
      go_loopw [6, 7] (fun x y wr => ∃ (e i : Nat), x = .int .i64 (e : Int) ∧ y = .int .i64 (i : Int) ∧ e ≤ s.size ∧ i ≤ N ∧ Aside0 (Steps e ((bs s).drop e) (L.drop i) s.size []) ∧ Aside0 (Below w1.heap.size w1 wr)) (fun _ y _ => N - (intOf y).toNat)
      case atStart => exact ⟨0, 0, rfl, rfl, by omega, by omega, ⟨by rw [List.drop_zero, List.drop_zero]; exact HS.out⟩, ⟨Below.refl _ _⟩⟩
      case round =>
        obtain ⟨b, i, rfl, rfl, hbs, hi, HSi, HBr⟩ := hrel
        have HB9 := Aside0.mk (HB1.out.trans (HBr.out.mono HB1.out.size))
        by_cases hlt : i < N
        · obtain ⟨k, a, n, hget, g1, g2, g3, g4, g5⟩ := places_next s b i L hbs HSi.out (by rw [HN.out]; exact hlt)
          obtain ⟨g, rfl, hcell⟩ := HA.out.2 (by rw [HN.out]; omega)
          obtain ⟨c0, c1, c2⟩ := hcell i _ hget
          simp only at c0 c1 c2
          replace c0 := pw_cell_below HBr.out c0
          replace c1 := pw_cell_below HBr.out c1
          replace c2 := pw_cell_below HBr.out c2
          have G4 := Aside0.mk g4
          have G5 := Aside0.mk g5
          obtain ⟨m, hm⟩ : ∃ m, a + n = m := ⟨_, rfl⟩
          have hmi : (a : Int) + (n : Int) = (m : Int) := by omega
          rw [hm] at c1 G5 g3
          have hcut := fun W => cut_str s a m (by omega) g3 W
          have hcut2 := fun W => cut_str s b a g1 (by omega) W
          obtain ⟨x, hx⟩ : ∃ x, s.extract a m = x := ⟨_, rfl⟩
          obtain ⟨y, hy⟩ : ∃ y, s.extract b a = y := ⟨_, rfl⟩
          rw [hx] at c1
          simp only [hx] at hcut
          simp only [hy] at hcut2
          rw [hy] at G4
          have hxs : x.size = n := by rw [← hx, ByteArray.size_extract]; omega
          have hys : y.size ≤ 3000 := by rw [← hy, ByteArray.size_extract]; omega
          have HX := Aside0.mk hx
          have HGET := Aside0.mk hget
          clear hcell g4 g5 hx hy hget
          subst hxs
          go_wp2_with fail
          have d0 : (wr.alloc (.cells #[.int .i64 (k : Int), .string x, .int .i64 (a : Int)] 28)).cell? ⟨wr.heap.size, 0, none⟩ = some (.int .i64 (k : Int)) := blk_cell (heap_alloc_new wr _) 0
          have d1 : (wr.alloc (.cells #[.int .i64 (k : Int), .string x, .int .i64 (a : Int)] 28)).cell? ⟨wr.heap.size, 1, none⟩ = some (.string x) := blk_cell (heap_alloc_new wr _) 1
          have d2 : (wr.alloc (.cells #[.int .i64 (k : Int), .string x, .int .i64 (a : Int)] 28)).cell? ⟨wr.heap.size, 2, none⟩ = some (.int .i64 (a : Int)) := blk_cell (heap_alloc_new wr _) 2
          have hBa : Below wr.heap.size wr (wr.alloc (.cells #[.int .i64 (k : Int), .string x, .int .i64 (a : Int)] 28)) := (Below.refl _ _).alloc (Nat.le_refl _) _
          obtain ⟨W2, hW2⟩ : ∃ W2, wr.alloc (.cells #[.int .i64 (k : Int), .string x, .int .i64 (a : Int)] 28) = W2 := ⟨_, rfl⟩
          obtain ⟨g2, hg2⟩ : ∃ g2, wr.heap.size = g2 := ⟨_, rfl⟩
          rw [hW2] at d0 d1 d2 hBa ⊢
          rw [hg2] at d0 d1 d2 ⊢
          have HBa := Aside0.mk hBa
          clear hW2 hg2 c0 c1 c2 hBa
          replace d0 := fun k => pw_cell_below (pw_below_drewN (Below.refl W2.heap.size W2) k) d0
          replace d1 := fun k => pw_cell_below (pw_below_drewN (Below.refl W2.heap.size W2) k) d1
          replace d2 := fun k => pw_cell_below (pw_below_drewN (Below.refl W2.heap.size W2) k) d2
          have l1 : decide ((a : Int) < (b : Int)) = false := decide_eq_false (by omega)
          have l2 : (x.toList == []) = false := by
            rw [beq_eq_false_iff_ne]
            intro e
            rw [ByteArray.toList_eq] at e
            have h0 : x.data.toList.length = 0 := by rw [e]; rfl
            rw [Array.length_toList] at h0
            have h9 : x.size = 0 := h0
            omega
          obtain ⟨z, hz⟩ : ∃ z, s.size - a = z := ⟨_, rfl⟩
          have hzi : (s.size : Int) - (a : Int) = (z : Int) := by omega
          have l3 : decide ((z : Int) < (x.size : Int)) = false := decide_eq_false (by omega)
          have l1n : decide (a < b) = false := decide_eq_false (by omega)
          have l3n : decide (z < x.size) = false := decide_eq_false (by omega)
          have k1 : IntKind.i64.wrap (z : Int) = (z : Int) := wrap_small _ (by omega) (by omega)
          have k2 : IntKind.i64.wrap (m : Int) = (m : Int) := wrap_small _ (by omega) (by omega)
          go_quiet (fail)
          go_wp2_with fail
          refine (tokens_ok y _ (by omega) (tabs_below HT.out (HB9.out.trans ((HBa.out.trans (pw_below_drewN (Below.refl W2.heap.size W2) nq |>.mono HBa.out.size)).mono HB9.out.size))) [] G4).mono ?_
          rintro e w5 ⟨A5, c5, rfl, HA5, hB5⟩
          have hBd := HBa.out.trans (pw_below_drewN (Below.refl W2.heap.size W2) nq |>.mono HBa.out.size)
          have HB5 : Aside0 (Below w1.heap.size w1 w5) := ⟨HBr.out.trans ((hBd.trans (hB5.out.mono hBd.size)).mono HBr.out.size)⟩
          replace d0 := pw_cell_below hB5.out (d0 nq)
          replace d1 := pw_cell_below hB5.out (d1 nq)
          replace d2 := pw_cell_below hB5.out (d2 nq)
          clear hBd hB5
          simp only [List.length_nil]
          go_wp2
          go_roundw
          case rel => exact ⟨m, i + 1, by go_num, by go_num, g3, by omega, G5, HB5⟩
          case measure => simp [intOf]; omega
        · go_wp2_with fail
          refine (awake_any _ (tabs_below HT.out HB9.out)).mono ?_
          rintro e w4 ⟨rfl, hB4⟩
          have HB4 := Aside0.mk (HB9.out.trans (hB4.mono HB9.out.size))
          clear hB4
          go_wp2
          go_ret
          exact ⟨rfl, HB4.out⟩
end Go.Proofs.YteipadogmdppgaaDoor
