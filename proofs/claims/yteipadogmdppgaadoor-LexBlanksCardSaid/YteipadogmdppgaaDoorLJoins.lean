/- The law LexJoins. -/
import Derived.Test.YteipadogmdppgaaDoorLBlankPure
namespace Go.Proofs.YteipadogmdppgaaDoor
set_option linter.unusedVariables false
set_option linter.unusedSimpArgs false
open Go.RowKit Go.Proofs.YteipadogmdppgaaDoorW.PrintWords

def erOf : Option (Nat × Nat) → Nat
  | none => 0
  | some (_, e) => e
theorem err_ne (s : ByteArray) (L : List (Nat × Nat × Nat)) (a er : Nat) (h : toksA 0 (bs s) = (L, some (a, er))) : er ≠ 0 := by
  obtain ⟨v, h1, h2, h3⟩ := (toks_steps (bs s).length 0 (bs s) (Nat.le_refl _)).2 L a er h
  rintro rfl
  unfold stepL at h3
  repeat' split at h3
  all_goals cases h3
theorem erOf_none (s : ByteArray) (L : List (Nat × Nat × Nat)) (E : Option (Nat × Nat)) (h : toksA 0 (bs s) = (L, E)) (h0 : erOf E = 0) : E = none := by
  cases E with
  | none => rfl
  | some ae => exact absurd h0 (err_ne s L ae.1 ae.2 h)
/-- No text that is too big: how it ends. -/
theorem tokens_gen (s : ByteArray) (w : World) (hs : s.size ≤ 16384) (hT : Tabs w) (L : List (Nat × Nat × Nat)) (E : Option (Nat × Nat)) (hR : Aside0 (toksA 0 (bs s) = (L, E))) (er : Nat) (he : Aside0 (erOf E = er)) :
    Calls Tryd.prog 11 #[.string s] w fun e w' => ∃ v y, e = .returned (.tuple #[v, y, .int .i64 (er : Int)]) ∧ Aside0 (Below w.heap.size w w') := by
  refine (tokens_run s w hs hT L E hR).mono ?_
  have h := he.out
  clear he
  subst h
  cases E with
  | none => rintro e w' ⟨v, rfl, _, h⟩; exact ⟨_, _, rfl, h⟩
  | some ae => rintro e w' ⟨rfl, h⟩; exact ⟨_, _, rfl, h⟩

set_option maxRecDepth 100000 in
set_option maxHeartbeats 4000000 in
theorem lexjoins_run (a b : ByteArray) (w : World) (ha : a.size ≤ 2000) (hb : b.size ≤ 2000) (X Y : List (Nat × Nat × Nat)) (hX : Aside0 (toksA 0 (bs a) = (X, none))) (hY : Aside0 (toksA 0 (bs b) = (Y, none))) (hT : Tabs w) :
    Calls Tryd.prog 6 #[.string a, .string b] w fun e w' => e = .returned (.bool true) ∧ Below w.heap.size w w' := by
  have HT := Aside0.mk hT
  clear hT
  have hb1 : decide (2000 < a.size) = false := decide_eq_false (by omega)
  have hb2 : decide ((2000 : Int) < (a.size : Int)) = false := decide_eq_false (by omega)
  have hb3 : decide (2000 < b.size) = false := decide_eq_false (by omega)
  have hb4 : decide ((2000 : Int) < (b.size : Int)) = false := decide_eq_false (by omega)
  obtain ⟨u1, hu1⟩ : ∃ u1, a ++ (⟨#[10]⟩ : ByteArray) = u1 := ⟨_, rfl⟩
  obtain ⟨u2, hu2⟩ : ∃ u2, u1 ++ b = u2 := ⟨_, rfl⟩
  have hz1 : u1.size = a.size + 1 := by rw [← hu1, ByteArray.size_append]; rfl
  have hz2 : u2.size = a.size + 1 + b.size := by rw [← hu2, ByteArray.size_append, hz1]
  have hs1 : ¬ (9223372036854775807 < a.size + 1) := by omega
  have hs2 : ¬ (9223372036854775807 < u1.size + b.size) := by omega
  have HU : Aside0 (a ++ nlS ++ b = u2) := ⟨by rw [← hu2, ← hu1]; rfl⟩
  have HZ : Aside0 (toksA 0 (bs u2) = (X ++ Y.map (shT (a.size + 1)), none)) := ⟨by rw [← HU.out]; exact joins_pure a b X Y hX.out hY.out⟩
  obtain ⟨Z, hZ⟩ : ∃ Z, X ++ Y.map (shT (a.size + 1)) = Z := ⟨_, rfl⟩
  rw [hZ] at HZ
  have HZE := Aside0.mk hZ
  have hzl : Z.length = X.length + Y.length := by rw [← hZ, List.length_append, List.length_map]
  clear hZ
  go_enter Tryd.func6, Tryd.ntmps6
  go_wp2_with fail
  refine (tokens_ok a _ (by omega) HT.out X hX).mono ?_
  rintro e w1 ⟨A1, c1, rfl, HA1, HB1⟩
  go_wp2_with fail
  refine (tokens_ok b _ (by omega) (tabs_below HT.out HB1.out) Y hY).mono ?_
  rintro e w2 ⟨A2, c2, rfl, HA2, hB2⟩
  have HB2 := Aside0.mk (HB1.out.trans (hB2.out.mono HB1.out.size))
  replace HA1 := Aside0.mk (HA1.out.below hB2.out)
  clear hB2
  go_wp2_with fail
  refine (tokens_ok u2 _ (by omega) (tabs_below HT.out HB2.out) Z HZ).mono ?_
  rintro e w3 ⟨A3, c3, rfl, HA3, hB3⟩
  have HB3 := Aside0.mk (HB2.out.trans (hB3.out.mono HB2.out.size))
  replace HA1 := Aside0.mk (HA1.out.below hB3.out)
  replace HA2 := Aside0.mk (HA2.out.below hB3.out)
  clear hB3 HB1 HB2
  clear hu1 hu2 hz1 hz2 hs1 hs2
  have hxm := HA1.out.1
  have hym := HA2.out.1
  have hzm := HA3.out.1
  obtain ⟨nx, hnx⟩ : ∃ n, X.length = n := ⟨_, rfl⟩
  obtain ⟨ny, hny⟩ : ∃ n, Y.length = n := ⟨_, rfl⟩
  obtain ⟨nz, hnz⟩ : ∃ n, Z.length = n := ⟨_, rfl⟩
  rw [hnx] at hxm hzl ⊢
  rw [hny] at hym hzl ⊢
  rw [hnz] at hzm hzl ⊢
  have HNX := Aside0.mk hnx
  have HNY := Aside0.mk hny
  have HNZ := Aside0.mk hnz
  have hni : (nx : Int) + (ny : Int) = (nz : Int) := by omega
  have HZL := Aside0.mk hzl
  clear hnx hny hnz hzl
  go_wp2_with fail
  go_loopw [14] (fun u wr => ∃ i : Nat, u = .int .i64 (i : Int) ∧ i ≤ nz ∧ Aside0 (Below w3.heap.size w3 wr)) (fun u _ => nz - (intOf u).toNat)
  case atStart => exact ⟨0, rfl, by omega, ⟨Below.refl _ _⟩⟩
  case round =>
    obtain ⟨i, rfl, hi, HBr⟩ := hrel
    have HB9 := Aside0.mk (HB3.out.trans (HBr.out.mono HB3.out.size))
    by_cases hlt : i < nz
    · have hrow := join_row a b X Y hX.out hY.out i (by rw [HNX.out, HNY.out, ← HZL.out]; exact hlt)
      obtain ⟨g3, rfl, hcell3⟩ := HA3.out.2 (by rw [HNZ.out]; omega)
      rw [HNX.out, HZE.out, HU.out] at hrow
      by_cases hix : i < nx
      · obtain ⟨kd, p, n, r1, r2, r3, r4⟩ := hrow.1 hix
        obtain ⟨g1, rfl, hcell1⟩ := HA1.out.2 (by rw [HNX.out]; omega)
        obtain ⟨x0, x1, x2⟩ := hcell1 i _ r1
        obtain ⟨z0, z1, z2⟩ := hcell3 i _ r3
        simp only at x0 x1 x2 z0 z1 z2
        rw [r4] at z1
        obtain ⟨tx, htx⟩ : ∃ tx, a.extract p (p + n) = tx := ⟨_, rfl⟩
        rw [htx] at x1 z1
        replace x0 := fun o => pw_cell_below ((Below.refl wr.heap.size wr).alloc (Nat.le_refl _) o) (pw_cell_below HBr.out x0)
        replace x1 := fun o => pw_cell_below ((Below.refl wr.heap.size wr).alloc (Nat.le_refl _) o) (pw_cell_below HBr.out x1)
        replace x2 := fun o => pw_cell_below ((Below.refl wr.heap.size wr).alloc (Nat.le_refl _) o) (pw_cell_below HBr.out x2)
        replace z0 := fun o => pw_cell_below ((Below.refl wr.heap.size wr).alloc (Nat.le_refl _) o) (pw_cell_below HBr.out z0)
        replace z1 := fun o => pw_cell_below ((Below.refl wr.heap.size wr).alloc (Nat.le_refl _) o) (pw_cell_below HBr.out z1)
        replace z2 := fun o => pw_cell_below ((Below.refl wr.heap.size wr).alloc (Nat.le_refl _) o) (pw_cell_below HBr.out z2)
        have hd1 : decide ((i : Int) < (nx : Int)) = true := decide_eq_true (by omega)
        have hd2 : decide (i < nx) = true := decide_eq_true hix
        clear hrow hcell1 hcell3 r1 r2 r3 r4 htx
        go_wp2_with fail
        have d0 : (wr.alloc (.cells #[.int .i64 (kd : Int), .string tx, .int .i64 (p : Int)] 28)).cell? ⟨wr.heap.size, 0, none⟩ = some (.int .i64 (kd : Int)) := blk_cell (heap_alloc_new wr _) 0
        have d1 : (wr.alloc (.cells #[.int .i64 (kd : Int), .string tx, .int .i64 (p : Int)] 28)).cell? ⟨wr.heap.size, 1, none⟩ = some (.string tx) := blk_cell (heap_alloc_new wr _) 1
        have d2 : (wr.alloc (.cells #[.int .i64 (kd : Int), .string tx, .int .i64 (p : Int)] 28)).cell? ⟨wr.heap.size, 2, none⟩ = some (.int .i64 (p : Int)) := blk_cell (heap_alloc_new wr _) 2
        replace z0 := z0 (.cells #[.int .i64 (kd : Int), .string tx, .int .i64 (p : Int)] 28)
        replace z1 := z1 (.cells #[.int .i64 (kd : Int), .string tx, .int .i64 (p : Int)] 28)
        replace z2 := z2 (.cells #[.int .i64 (kd : Int), .string tx, .int .i64 (p : Int)] 28)
        have hBa : Below wr.heap.size wr (wr.alloc (.cells #[.int .i64 (kd : Int), .string tx, .int .i64 (p : Int)] 28)) := (Below.refl _ _).alloc (Nat.le_refl _) _
        obtain ⟨W2, hW2⟩ : ∃ W2, wr.alloc (.cells #[.int .i64 (kd : Int), .string tx, .int .i64 (p : Int)] 28) = W2 := ⟨_, rfl⟩
        obtain ⟨g2, hg2⟩ : ∃ g2, wr.heap.size = g2 := ⟨_, rfl⟩
        rw [hW2] at d0 d1 d2 z0 z1 z2 hBa ⊢
        rw [hg2] at d0 d1 d2 ⊢
        have HBa := Aside0.mk hBa
        clear hW2 hg2 x0 x1 x2 hBa
        replace d0 := fun k => pw_cell_below (pw_below_drewN (Below.refl W2.heap.size W2) k) d0
        replace d1 := fun k => pw_cell_below (pw_below_drewN (Below.refl W2.heap.size W2) k) d1
        replace d2 := fun k => pw_cell_below (pw_below_drewN (Below.refl W2.heap.size W2) k) d2
        replace z0 := fun k => pw_cell_below (pw_below_drewN (Below.refl W2.heap.size W2) k) z0
        replace z1 := fun k => pw_cell_below (pw_below_drewN (Below.refl W2.heap.size W2) k) z1
        replace z2 := fun k => pw_cell_below (pw_below_drewN (Below.refl W2.heap.size W2) k) z2
        go_quiet (fail)
        have HB5 : Aside0 (Below w3.heap.size w3 (W2.drewN nq)) := ⟨HBr.out.trans ((HBa.out.trans (pw_below_drewN (Below.refl W2.heap.size W2) nq |>.mono HBa.out.size)).mono HBr.out.size)⟩
        go_wp2
        go_roundw
        case rel => exact ⟨i + 1, by go_num, by omega, HB5⟩
        case measure => simp [intOf]; omega
      · obtain ⟨kd, p, n, r1, r2, r3, r4⟩ := hrow.2 hix
        have hzl := HZL.out
        obtain ⟨g1, rfl, hcell1⟩ := HA2.out.2 (by rw [HNY.out]; omega)
        obtain ⟨j, hj⟩ : ∃ j, i - nx = j := ⟨_, rfl⟩
        obtain ⟨q, hq⟩ : ∃ q, p + (a.size + 1) = q := ⟨_, rfl⟩
        obtain ⟨q0, hq0⟩ : ∃ q, p + a.size = q := ⟨_, rfl⟩
        rw [hj] at r1
        rw [hq] at r3 r4
        have hji : (i : Int) - (nx : Int) = (j : Int) := by omega
        have hqi : (p : Int) + (a.size : Int) = (q0 : Int) := by omega
        have hqj : (q0 : Int) + 1 = (q : Int) := by omega
        have hjl : j < ny := by omega
        obtain ⟨x0, x1, x2⟩ := hcell1 j _ r1
        obtain ⟨z0, z1, z2⟩ := hcell3 i _ r3
        simp only at x0 x1 x2 z0 z1 z2
        rw [r4] at z1
        obtain ⟨tx, htx⟩ : ∃ tx, b.extract p (p + n) = tx := ⟨_, rfl⟩
        rw [htx] at x1 z1
        replace x0 := fun o => pw_cell_below ((Below.refl wr.heap.size wr).alloc (Nat.le_refl _) o) (pw_cell_below HBr.out x0)
        replace x1 := fun o => pw_cell_below ((Below.refl wr.heap.size wr).alloc (Nat.le_refl _) o) (pw_cell_below HBr.out x1)
        replace x2 := fun o => pw_cell_below ((Below.refl wr.heap.size wr).alloc (Nat.le_refl _) o) (pw_cell_below HBr.out x2)
        replace z0 := fun o => pw_cell_below ((Below.refl wr.heap.size wr).alloc (Nat.le_refl _) o) (pw_cell_below HBr.out z0)
        replace z1 := fun o => pw_cell_below ((Below.refl wr.heap.size wr).alloc (Nat.le_refl _) o) (pw_cell_below HBr.out z1)
        replace z2 := fun o => pw_cell_below ((Below.refl wr.heap.size wr).alloc (Nat.le_refl _) o) (pw_cell_below HBr.out z2)
        have hd1 : decide ((i : Int) < (nx : Int)) = false := decide_eq_false (by omega)
        have hd2 : decide (i < nx) = false := decide_eq_false hix
        clear hrow hcell1 hcell3 r1 r3 r4 htx hzl hj hq hq0
        go_wp2_with fail
        have d0 : (wr.alloc (.cells #[.int .i64 (kd : Int), .string tx, .int .i64 (q : Int)] 28)).cell? ⟨wr.heap.size, 0, none⟩ = some (.int .i64 (kd : Int)) := blk_cell (heap_alloc_new wr _) 0
        have d1 : (wr.alloc (.cells #[.int .i64 (kd : Int), .string tx, .int .i64 (q : Int)] 28)).cell? ⟨wr.heap.size, 1, none⟩ = some (.string tx) := blk_cell (heap_alloc_new wr _) 1
        have d2 : (wr.alloc (.cells #[.int .i64 (kd : Int), .string tx, .int .i64 (q : Int)] 28)).cell? ⟨wr.heap.size, 2, none⟩ = some (.int .i64 (q : Int)) := blk_cell (heap_alloc_new wr _) 2
        replace z0 := z0 (.cells #[.int .i64 (kd : Int), .string tx, .int .i64 (q : Int)] 28)
        replace z1 := z1 (.cells #[.int .i64 (kd : Int), .string tx, .int .i64 (q : Int)] 28)
        replace z2 := z2 (.cells #[.int .i64 (kd : Int), .string tx, .int .i64 (q : Int)] 28)
        have hBa : Below wr.heap.size wr (wr.alloc (.cells #[.int .i64 (kd : Int), .string tx, .int .i64 (q : Int)] 28)) := (Below.refl _ _).alloc (Nat.le_refl _) _
        obtain ⟨W2, hW2⟩ : ∃ W2, wr.alloc (.cells #[.int .i64 (kd : Int), .string tx, .int .i64 (q : Int)] 28) = W2 := ⟨_, rfl⟩
        obtain ⟨g2, hg2⟩ : ∃ g2, wr.heap.size = g2 := ⟨_, rfl⟩
        rw [hW2] at d0 d1 d2 z0 z1 z2 hBa ⊢
        rw [hg2] at d0 d1 d2 ⊢
        have HBa := Aside0.mk hBa
        clear hW2 hg2 x0 x1 x2 hBa
        replace d0 := fun k => pw_cell_below (pw_below_drewN (Below.refl W2.heap.size W2) k) d0
        replace d1 := fun k => pw_cell_below (pw_below_drewN (Below.refl W2.heap.size W2) k) d1
        replace d2 := fun k => pw_cell_below (pw_below_drewN (Below.refl W2.heap.size W2) k) d2
        replace z0 := fun k => pw_cell_below (pw_below_drewN (Below.refl W2.heap.size W2) k) z0
        replace z1 := fun k => pw_cell_below (pw_below_drewN (Below.refl W2.heap.size W2) k) z1
        replace z2 := fun k => pw_cell_below (pw_below_drewN (Below.refl W2.heap.size W2) k) z2
        go_quiet (fail)
        have HB5 : Aside0 (Below w3.heap.size w3 (W2.drewN nq)) := ⟨HBr.out.trans ((HBa.out.trans (pw_below_drewN (Below.refl W2.heap.size W2) nq |>.mono HBa.out.size)).mono HBr.out.size)⟩
        go_wp2
        go_roundw
        case rel => exact ⟨i + 1, by go_num, by omega, HB5⟩
        case measure => simp [intOf]; omega
    · go_wp2_with fail
      refine (awake_any _ (tabs_below HT.out HB9.out)).mono ?_
      rintro e w4 ⟨rfl, hB4⟩
      have HB4 := Aside0.mk (HB9.out.trans (hB4.mono HB9.out.size))
      clear hB4
      go_wp2
      go_ret
      exact ⟨rfl, HB4.out⟩

set_option maxRecDepth 100000 in
set_option maxHeartbeats 2000000 in
theorem lexjoins_walk (a b : ByteArray) (w : World) (ha : a.size ≤ 140737488351232) (hb : b.size ≤ 140737488351232) (hT : Tabs w) :
    Calls Tryd.prog 6 #[.string a, .string b] w fun e w' => e = .returned (.bool true) ∧ Below w.heap.size w w' := by
  by_cases ha2 : 2000 < a.size
  · have HT := Aside0.mk hT
    clear hT
    have hb1 : decide (2000 < a.size) = true := decide_eq_true ha2
    have hb2 : decide ((2000 : Int) < (a.size : Int)) = true := decide_eq_true (by omega)
    go_enter Tryd.func6, Tryd.ntmps6
    go_wp2_with fail
    refine (awake_any _ HT.out).mono ?_
    rintro e w1 ⟨rfl, hB1⟩
    have HB1 := Aside0.mk hB1
    clear hB1
    go_wp2
    go_ret
    exact ⟨rfl, HB1.out⟩
  · have hb1 : decide (2000 < a.size) = false := decide_eq_false ha2
    have hb2 : decide ((2000 : Int) < (a.size : Int)) = false := decide_eq_false (by omega)
    by_cases hb3 : 2000 < b.size
    · have HT := Aside0.mk hT
      clear hT
      have hb4 : decide (2000 < b.size) = true := decide_eq_true hb3
      have hb5 : decide ((2000 : Int) < (b.size : Int)) = true := decide_eq_true (by omega)
      go_enter Tryd.func6, Tryd.ntmps6
      go_wp2_with fail
      refine (awake_any _ HT.out).mono ?_
      rintro e w1 ⟨rfl, hB1⟩
      have HB1 := Aside0.mk hB1
      clear hB1
      go_wp2
      go_ret
      exact ⟨rfl, HB1.out⟩
    · obtain ⟨X, E, hX⟩ : ∃ L E, toksA 0 (bs a) = (L, E) := ⟨_, _, rfl⟩
      obtain ⟨Y, G, hY⟩ : ∃ L E, toksA 0 (bs b) = (L, E) := ⟨_, _, rfl⟩
      obtain ⟨e1, he1⟩ : ∃ e, erOf E = e := ⟨_, rfl⟩
      obtain ⟨e2, he2⟩ : ∃ e, erOf G = e := ⟨_, rfl⟩
      by_cases hboth : e1 = 0 ∧ e2 = 0
      · have q1 := erOf_none a X E hX (by rw [he1]; exact hboth.1)
        have q2 := erOf_none b Y G hY (by rw [he2]; exact hboth.2)
        subst q1 q2
        exact lexjoins_run a b w (by omega) (by omega) X Y ⟨hX⟩ ⟨hY⟩ hT
      · have HT := Aside0.mk hT
        have HX := Aside0.mk hX
        have HY := Aside0.mk hY
        have HE1 := Aside0.mk he1
        have HE2 := Aside0.mk he2
        have hb4 : decide (2000 < b.size) = false := decide_eq_false hb3
        have hb5 : decide ((2000 : Int) < (b.size : Int)) = false := decide_eq_false (by omega)
        clear hT hX hY he1 he2
        by_cases h0 : e1 = 0
        · have hq1 : ((e1 : Int) != 0) = false := by rw [bne_eq_false_iff_eq]; omega
          have hq2 : ((e2 : Int) != 0) = true := by rw [bne_iff_ne]; omega
          have hq3 : ((e1 : Int) == 0) = true := by rw [beq_iff_eq]; omega
          have hq4 : ((e2 : Int) == 0) = false := by rw [beq_eq_false_iff_ne]; omega
          clear h0 hboth
          go_enter Tryd.func6, Tryd.ntmps6
          go_wp2_with fail
          refine (tokens_gen a _ (by omega) HT.out X E HX e1 HE1).mono ?_
          rintro e w1 ⟨v1, y1, rfl, HB1⟩
          go_wp2_with fail
          refine (tokens_gen b _ (by omega) (tabs_below HT.out HB1.out) Y G HY e2 HE2).mono ?_
          rintro e w2 ⟨v2, y2, rfl, hB2⟩
          have HB2 := Aside0.mk (HB1.out.trans (hB2.out.mono HB1.out.size))
          clear hB2
          go_wp2_with fail
          refine (awake_any _ (tabs_below HT.out HB2.out)).mono ?_
          rintro e w3 ⟨rfl, hB3⟩
          have HB3 := Aside0.mk (HB2.out.trans (hB3.mono HB2.out.size))
          clear hB3
          go_wp2
          go_ret
          exact ⟨rfl, HB3.out⟩
        · have hq1 : ((e1 : Int) != 0) = true := by rw [bne_iff_ne]; omega
          have hq3 : ((e1 : Int) == 0) = false := by rw [beq_eq_false_iff_ne]; omega
          clear h0 hboth
          go_enter Tryd.func6, Tryd.ntmps6
          go_wp2_with fail
          refine (tokens_gen a _ (by omega) HT.out X E HX e1 HE1).mono ?_
          rintro e w1 ⟨v1, y1, rfl, HB1⟩
          go_wp2_with fail
          refine (tokens_gen b _ (by omega) (tabs_below HT.out HB1.out) Y G HY e2 HE2).mono ?_
          rintro e w2 ⟨v2, y2, rfl, hB2⟩
          have HB2 := Aside0.mk (HB1.out.trans (hB2.out.mono HB1.out.size))
          clear hB2
          go_wp2_with fail
          refine (awake_any _ (tabs_below HT.out HB2.out)).mono ?_
          rintro e w3 ⟨rfl, hB3⟩
          have HB3 := Aside0.mk (HB2.out.trans (hB3.mono HB2.out.size))
          clear hB3
          go_wp2
          go_ret
          exact ⟨rfl, HB3.out⟩
end Go.Proofs.YteipadogmdppgaaDoor
