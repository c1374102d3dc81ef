/- The reference's Look. -/
import Derived.Test.YtmdkgbbgppiaaaaDRef
namespace Go.Proofs.Ytmdkgbbgppiaaaa
set_option linter.unusedVariables false
set_option linter.unusedSimpArgs false
open Go.RowKit Go.ChangeMaps Go.Proofs.YtmdkgbbgppiaaaaW.PrintWords

set_option maxRecDepth 100000 in
set_option maxHeartbeats 2000000 in
theorem look_r (w : World) (B g size : Nat) (vL vM : Value) (R M : List ((Int × Int) × Pk)) (C : RefAt w B g size vL vM R M) (hR : R.length ≤ 100) (hM : M.length ≤ 100) (f i : Int) (p : Pk) (k : Nat) (hp : Aside0 (lookS R (lastM M) f i = (p, k))) :
    Calls Try.prog 17 #[.pointer (some ⟨g, 0, none⟩), .int .i64 f, .int .i64 i] w fun e w' => e = .returned (.tuple #[pkV p, .int .i64 (k : Int)]) ∧ Below w.heap.size w w' := by
  have HB0 : Aside0 (Below w.heap.size w (w.alloc (.cells #[.int .i64 0, .int .i64 0, .int .i64 0, .int .i64 0, .int .i64 0, .string ⟨#[]⟩, .int .i64 0, .string ⟨#[]⟩] 28))) := ⟨(Below.refl _ _).alloc (Nat.le_refl _) _⟩
  have HK0 := Aside0.mk (heap_alloc_new w (.cells #[.int .i64 0, .int .i64 0, .int .i64 0, .int .i64 0, .int .i64 0, .string ⟨#[]⟩, .int .i64 0, .string ⟨#[]⟩] 28))
  have HC := Aside0.mk (C.below HB0.out)
  obtain ⟨A, c, hv, hl⟩ := Kd.Q_slice C.rowL
  subst hv
  clear C
  obtain ⟨last, hlast⟩ : ∃ last, lastM M f = last := ⟨_, rfl⟩
  have HLA := Aside0.mk hlast
  have HP : Aside0 (lookR (repR R (f, i)) last i = (p, k)) := ⟨by rw [← hlast, ← lookS_eq]; exact hp.out⟩
  clear hlast hp
  go_enter Try.func17, Try.ntmps17
  go_wp2_with fail
  change Code.wp _ _ _ _ (w.alloc (.cells #[.int .i64 0, .int .i64 0, .int .i64 0, .int .i64 0, .int .i64 0, .string ⟨#[]⟩, .int .i64 0, .string ⟨#[]⟩] 28))
  obtain ⟨w0, hw0⟩ : ∃ W, w.alloc (.cells #[.int .i64 0, .int .i64 0, .int .i64 0, .int .i64 0, .int .i64 0, .string ⟨#[]⟩, .int .i64 0, .string ⟨#[]⟩] 28) = W := ⟨_, rfl⟩
  rw [hw0] at HB0 HK0 HC ⊢
  clear hw0
  have cm : w0.cell? ⟨g, 1, none⟩ = some (.slice A R.length c) := blk_cell HC.out.blk 1
  go_loopw [8] (fun u wr => ∃ j : Nat, u = .int .i64 (j : Int) ∧ j ≤ R.length ∧ Aside0 (repR (R.drop j) (f, i) = repR R (f, i)) ∧ wr = w0) (fun u _ => R.length - (intOf u).toNat)
  case atStart => exact ⟨0, rfl, Nat.zero_le _, ⟨rfl⟩, rfl⟩
  case round =>
    obtain ⟨j, rfl, hj, HX, rfl⟩ := hrel
    by_cases hlt : j < R.length
    · obtain ⟨gm, o, cap, hv, _⟩ := Kd.Q_form HC.out.rowL (by omega)
      injection hv with hv _ _
      subst hv
      obtain ⟨x, hx⟩ : ∃ x, R[j]? = some x := ⟨_, List.getElem?_eq_getElem hlt⟩
      have hcs := kK_cells HC.out.rowL hlt hx
      have HX2 := HX.out
      rw [rep_at hx] at HX2
      obtain ⟨⟨xf, xi⟩, ⟨kind, fr, to_, id, ver, meth, err, body⟩⟩ := x
      have h0 : wr.cell? ⟨gm, o + j * 10 + 0, none⟩ = some (.int .i64 xf) := hcs 0 _ rfl
      have h1 : wr.cell? ⟨gm, o + j * 10 + 1, none⟩ = some (.int .i64 xi) := hcs 1 _ rfl
      have p0 : wr.cell? ⟨gm, o + j * 10 + 2, none⟩ = some (.int .i64 kind) := hcs 2 _ rfl
      have p1 : wr.cell? ⟨gm, o + j * 10 + 3, none⟩ = some (.int .i64 fr) := hcs 3 _ rfl
      have p2 : wr.cell? ⟨gm, o + j * 10 + 4, none⟩ = some (.int .i64 to_) := hcs 4 _ rfl
      have p3 : wr.cell? ⟨gm, o + j * 10 + 5, none⟩ = some (.int .i64 id) := hcs 5 _ rfl
      have p4 : wr.cell? ⟨gm, o + j * 10 + 6, none⟩ = some (.int .i64 ver) := hcs 6 _ rfl
      have p5 : wr.cell? ⟨gm, o + j * 10 + 7, none⟩ = some (.string meth) := hcs 7 _ rfl
      have p6 : wr.cell? ⟨gm, o + j * 10 + 8, none⟩ = some (.int .i64 err) := hcs 8 _ rfl
      have p7 : wr.cell? ⟨gm, o + j * 10 + 9, none⟩ = some (.string body) := hcs 9 _ rfl
      rw [Nat.add_zero] at h0
      have d1 : decide ((j : Int) < (R.length : Int)) = true := decide_eq_true (by omega)
      have d2 : decide (j < R.length) = true := decide_eq_true hlt
      clear hcs hx
      by_cases hxf : xf = f
      · have e1 : (xf == f) = true := beq_iff_eq.2 hxf
        by_cases hxi : xi = i
        · have e2 : (xi == i) = true := beq_iff_eq.2 hxi
          rw [hxf, hxi, if_pos rfl] at HX2
          have HXE : Aside0 (((⟨kind, fr, to_, id, ver, meth, err, body⟩ : Pk), 2) = (p, k)) := ⟨by have h9 := HP.out; rw [← HX2] at h9; exact h9⟩
          clear HX2 hxf hxi
          have hblk9 : wr.heap[w.heap.size]? = some (.cells #[.int .i64 0, .int .i64 0, .int .i64 0, .int .i64 0, .int .i64 0, .string ⟨#[]⟩, .int .i64 0, .string ⟨#[]⟩] 28 (0, 0)) := HK0.out
          have z0 : wr.cell? ⟨w.heap.size, 0, none⟩ = some (.int .i64 0) := blk_cell hblk9 0
          have z1 : wr.cell? ⟨w.heap.size, 1, none⟩ = some (.int .i64 0) := blk_cell hblk9 1
          have z2 : wr.cell? ⟨w.heap.size, 2, none⟩ = some (.int .i64 0) := blk_cell hblk9 2
          have z3 : wr.cell? ⟨w.heap.size, 3, none⟩ = some (.int .i64 0) := blk_cell hblk9 3
          have z4 : wr.cell? ⟨w.heap.size, 4, none⟩ = some (.int .i64 0) := blk_cell hblk9 4
          have z5 : wr.cell? ⟨w.heap.size, 5, none⟩ = some (.string ⟨#[]⟩) := blk_cell hblk9 5
          have z6 : wr.cell? ⟨w.heap.size, 6, none⟩ = some (.int .i64 0) := blk_cell hblk9 6
          have z7 : wr.cell? ⟨w.heap.size, 7, none⟩ = some (.string ⟨#[]⟩) := blk_cell hblk9 7
          have hfz := fun i => blk_frozen hblk9 i
          go_wp2_with fail
          change bodyPost _ _ _ _ _ (put8 wr w.heap.size (.int .i64 kind) (.int .i64 fr) (.int .i64 to_) (.int .i64 id) (.int .i64 ver) (.string meth) (.int .i64 err) (.string body))
          have hb8 := put8_below HB0.out (Nat.le_refl w.heap.size) (.int .i64 kind) (.int .i64 fr) (.int .i64 to_) (.int .i64 id) (.int .i64 ver) (.string meth) (.int .i64 err) (.string body)
          have hk8 := put8_blk hblk9 (.int .i64 kind) (.int .i64 fr) (.int .i64 to_) (.int .i64 id) (.int .i64 ver) (.string meth) (.int .i64 err) (.string body)
          obtain ⟨w8, hw8⟩ : ∃ w8, put8 wr w.heap.size (.int .i64 kind) (.int .i64 fr) (.int .i64 to_) (.int .i64 id) (.int .i64 ver) (.string meth) (.int .i64 err) (.string body) = w8 := ⟨_, rfl⟩
          rw [hw8] at hb8 hk8 ⊢
          clear hw8 z0 z1 z2 z3 z4 z5 z6 z7 hfz hblk9
          have z0 : w8.cell? ⟨w.heap.size, 0, none⟩ = some (.int .i64 kind) := blk_cell hk8 0
          have z1 : w8.cell? ⟨w.heap.size, 1, none⟩ = some (.int .i64 fr) := blk_cell hk8 1
          have z2 : w8.cell? ⟨w.heap.size, 2, none⟩ = some (.int .i64 to_) := blk_cell hk8 2
          have z3 : w8.cell? ⟨w.heap.size, 3, none⟩ = some (.int .i64 id) := blk_cell hk8 3
          have z4 : w8.cell? ⟨w.heap.size, 4, none⟩ = some (.int .i64 ver) := blk_cell hk8 4
          have z5 : w8.cell? ⟨w.heap.size, 5, none⟩ = some (.string meth) := blk_cell hk8 5
          have z6 : w8.cell? ⟨w.heap.size, 6, none⟩ = some (.int .i64 err) := blk_cell hk8 6
          have z7 : w8.cell? ⟨w.heap.size, 7, none⟩ = some (.string body) := blk_cell hk8 7
          refine bodyPost_ret (v := .tuple #[pkV ⟨kind, fr, to_, id, ver, meth, err, body⟩, .int .i64 2]) ?_ rfl ?_
          · rw [results_cell_tmp rfl]
            go_simp
            rfl
          · have h9 := HXE.out
            injection h9 with h9 h10
            subst h9 h10
            exact ⟨rfl, hb8⟩
        · have e2 : (xi == i) = false := beq_eq_false_iff_ne.2 hxi
          rw [if_neg (fun h => hxi (Prod.mk.inj h).2)] at HX2
          have HXE := Aside0.mk HX2
          clear HX2 hxf hxi
          go_wp2_with fail
          go_roundw
          case rel => exact ⟨j + 1, by go_num, by omega, HXE, by trivial⟩
          case measure => simp [intOf]; omega
      · have e1 : (xf == f) = false := beq_eq_false_iff_ne.2 hxf
        rw [if_neg (fun h => hxf (Prod.mk.inj h).1)] at HX2
        have HXE := Aside0.mk HX2
        clear HX2 hxf
        go_wp2_with fail
        go_roundw
        case rel => exact ⟨j + 1, by go_num, by omega, HXE, by trivial⟩
        case measure => simp [intOf]; omega
    · have d1 : decide ((j : Int) < (R.length : Int)) = false := decide_eq_false (by omega)
      have d2 : decide (j < R.length) = false := decide_eq_false hlt
      have hin : j = R.length := by omega
      have HXN : Aside0 (repR R (f, i) = none) := ⟨by rw [← HX.out, hin, List.drop_length]; rfl⟩
      clear hin
      have HXP : Aside0 (lookR none last i = (p, k)) := ⟨by rw [← HXN.out]; exact HP.out⟩
      go_wp2_with fail
      refine (last_r wr B g size _ vM R M HC.out hM f last HLA).mono ?_
      rintro e w1 ⟨rfl, rfl⟩
      have hblk9 : w1.heap[w.heap.size]? = some (.cells #[.int .i64 0, .int .i64 0, .int .i64 0, .int .i64 0, .int .i64 0, .string ⟨#[]⟩, .int .i64 0, .string ⟨#[]⟩] 28 (0, 0)) := HK0.out
      have z0 : w1.cell? ⟨w.heap.size, 0, none⟩ = some (.int .i64 0) := blk_cell hblk9 0
      have z1 : w1.cell? ⟨w.heap.size, 1, none⟩ = some (.int .i64 0) := blk_cell hblk9 1
      have z2 : w1.cell? ⟨w.heap.size, 2, none⟩ = some (.int .i64 0) := blk_cell hblk9 2
      have z3 : w1.cell? ⟨w.heap.size, 3, none⟩ = some (.int .i64 0) := blk_cell hblk9 3
      have z4 : w1.cell? ⟨w.heap.size, 4, none⟩ = some (.int .i64 0) := blk_cell hblk9 4
      have z5 : w1.cell? ⟨w.heap.size, 5, none⟩ = some (.string ⟨#[]⟩) := blk_cell hblk9 5
      have z6 : w1.cell? ⟨w.heap.size, 6, none⟩ = some (.int .i64 0) := blk_cell hblk9 6
      have z7 : w1.cell? ⟨w.heap.size, 7, none⟩ = some (.string ⟨#[]⟩) := blk_cell hblk9 7
      have hfz := fun i => blk_frozen hblk9 i
      clear cm
      cases last with
      | none =>
        have HXQ : Aside0 ((pk0, 1) = (p, k)) := ⟨HXP.out⟩
        simp only [Option.getD_none, Option.isSome_none]
        go_wp2_with fail
        change bodyPost _ _ _ _ _ (put8 w1 w.heap.size (.int .i64 0) (.int .i64 0) (.int .i64 0) (.int .i64 0) (.int .i64 0) (.string ⟨#[]⟩) (.int .i64 0) (.string ⟨#[]⟩))
        have hb8 := put8_below HB0.out (Nat.le_refl w.heap.size) (.int .i64 0) (.int .i64 0) (.int .i64 0) (.int .i64 0) (.int .i64 0) (.string ⟨#[]⟩) (.int .i64 0) (.string ⟨#[]⟩)
        have hk8 := put8_blk hblk9 (.int .i64 0) (.int .i64 0) (.int .i64 0) (.int .i64 0) (.int .i64 0) (.string ⟨#[]⟩) (.int .i64 0) (.string ⟨#[]⟩)
        obtain ⟨w8, hw8⟩ : ∃ w8, put8 w1 w.heap.size (.int .i64 0) (.int .i64 0) (.int .i64 0) (.int .i64 0) (.int .i64 0) (.string ⟨#[]⟩) (.int .i64 0) (.string ⟨#[]⟩) = w8 := ⟨_, rfl⟩
        rw [hw8] at hb8 hk8 ⊢
        clear hw8 z0 z1 z2 z3 z4 z5 z6 z7 hfz hblk9
        have z0 : w8.cell? ⟨w.heap.size, 0, none⟩ = some (.int .i64 0) := blk_cell hk8 0
        have z1 : w8.cell? ⟨w.heap.size, 1, none⟩ = some (.int .i64 0) := blk_cell hk8 1
        have z2 : w8.cell? ⟨w.heap.size, 2, none⟩ = some (.int .i64 0) := blk_cell hk8 2
        have z3 : w8.cell? ⟨w.heap.size, 3, none⟩ = some (.int .i64 0) := blk_cell hk8 3
        have z4 : w8.cell? ⟨w.heap.size, 4, none⟩ = some (.int .i64 0) := blk_cell hk8 4
        have z5 : w8.cell? ⟨w.heap.size, 5, none⟩ = some (.string ⟨#[]⟩) := blk_cell hk8 5
        have z6 : w8.cell? ⟨w.heap.size, 6, none⟩ = some (.int .i64 0) := blk_cell hk8 6
        have z7 : w8.cell? ⟨w.heap.size, 7, none⟩ = some (.string ⟨#[]⟩) := blk_cell hk8 7
        refine bodyPost_ret (v := .tuple #[pkV pk0, .int .i64 1]) ?_ rfl ?_
        · rw [results_cell_tmp rfl]
          go_simp
          rfl
        · have h9 := HXQ.out
          injection h9 with h9 h10
          subst h9 h10
          exact ⟨rfl, hb8⟩
      | some n =>
        simp only [Option.getD_some, Option.isSome_some]
        by_cases hin : i ≤ n
        · have HXQ : Aside0 ((pk0, 3) = (p, k)) := ⟨by have h9 := HXP.out; simp only [lookR] at h9; rw [if_pos hin] at h9; exact h9⟩
          have d3 : decide (i ≤ n) = true := decide_eq_true hin
          clear hin
          go_wp2_with fail
          change bodyPost _ _ _ _ _ (put8 w1 w.heap.size (.int .i64 0) (.int .i64 0) (.int .i64 0) (.int .i64 0) (.int .i64 0) (.string ⟨#[]⟩) (.int .i64 0) (.string ⟨#[]⟩))
          have hb8 := put8_below HB0.out (Nat.le_refl w.heap.size) (.int .i64 0) (.int .i64 0) (.int .i64 0) (.int .i64 0) (.int .i64 0) (.string ⟨#[]⟩) (.int .i64 0) (.string ⟨#[]⟩)
          have hk8 := put8_blk hblk9 (.int .i64 0) (.int .i64 0) (.int .i64 0) (.int .i64 0) (.int .i64 0) (.string ⟨#[]⟩) (.int .i64 0) (.string ⟨#[]⟩)
          obtain ⟨w8, hw8⟩ : ∃ w8, put8 w1 w.heap.size (.int .i64 0) (.int .i64 0) (.int .i64 0) (.int .i64 0) (.int .i64 0) (.string ⟨#[]⟩) (.int .i64 0) (.string ⟨#[]⟩) = w8 := ⟨_, rfl⟩
          rw [hw8] at hb8 hk8 ⊢
          clear hw8 z0 z1 z2 z3 z4 z5 z6 z7 hfz hblk9
          have z0 : w8.cell? ⟨w.heap.size, 0, none⟩ = some (.int .i64 0) := blk_cell hk8 0
          have z1 : w8.cell? ⟨w.heap.size, 1, none⟩ = some (.int .i64 0) := blk_cell hk8 1
          have z2 : w8.cell? ⟨w.heap.size, 2, none⟩ = some (.int .i64 0) := blk_cell hk8 2
          have z3 : w8.cell? ⟨w.heap.size, 3, none⟩ = some (.int .i64 0) := blk_cell hk8 3
          have z4 : w8.cell? ⟨w.heap.size, 4, none⟩ = some (.int .i64 0) := blk_cell hk8 4
          have z5 : w8.cell? ⟨w.heap.size, 5, none⟩ = some (.string ⟨#[]⟩) := blk_cell hk8 5
          have z6 : w8.cell? ⟨w.heap.size, 6, none⟩ = some (.int .i64 0) := blk_cell hk8 6
          have z7 : w8.cell? ⟨w.heap.size, 7, none⟩ = some (.string ⟨#[]⟩) := blk_cell hk8 7
          refine bodyPost_ret (v := .tuple #[pkV pk0, .int .i64 3]) ?_ rfl ?_
          · rw [results_cell_tmp rfl]
            go_simp
            rfl
          · have h9 := HXQ.out
            injection h9 with h9 h10
            subst h9 h10
            exact ⟨rfl, hb8⟩
        · have HXQ : Aside0 ((pk0, 1) = (p, k)) := ⟨by have h9 := HXP.out; simp only [lookR] at h9; rw [if_neg hin] at h9; exact h9⟩
          have d3 : decide (i ≤ n) = false := decide_eq_false hin
          clear hin
          go_wp2_with fail
          change bodyPost _ _ _ _ _ (put8 w1 w.heap.size (.int .i64 0) (.int .i64 0) (.int .i64 0) (.int .i64 0) (.int .i64 0) (.string ⟨#[]⟩) (.int .i64 0) (.string ⟨#[]⟩))
          have hb8 := put8_below HB0.out (Nat.le_refl w.heap.size) (.int .i64 0) (.int .i64 0) (.int .i64 0) (.int .i64 0) (.int .i64 0) (.string ⟨#[]⟩) (.int .i64 0) (.string ⟨#[]⟩)
          have hk8 := put8_blk hblk9 (.int .i64 0) (.int .i64 0) (.int .i64 0) (.int .i64 0) (.int .i64 0) (.string ⟨#[]⟩) (.int .i64 0) (.string ⟨#[]⟩)
          obtain ⟨w8, hw8⟩ : ∃ w8, put8 w1 w.heap.size (.int .i64 0) (.int .i64 0) (.int .i64 0) (.int .i64 0) (.int .i64 0) (.string ⟨#[]⟩) (.int .i64 0) (.string ⟨#[]⟩) = w8 := ⟨_, rfl⟩
          rw [hw8] at hb8 hk8 ⊢
          clear hw8 z0 z1 z2 z3 z4 z5 z6 z7 hfz hblk9
          have z0 : w8.cell? ⟨w.heap.size, 0, none⟩ = some (.int .i64 0) := blk_cell hk8 0
          have z1 : w8.cell? ⟨w.heap.size, 1, none⟩ = some (.int .i64 0) := blk_cell hk8 1
          have z2 : w8.cell? ⟨w.heap.size, 2, none⟩ = some (.int .i64 0) := blk_cell hk8 2
          have z3 : w8.cell? ⟨w.heap.size, 3, none⟩ = some (.int .i64 0) := blk_cell hk8 3
          have z4 : w8.cell? ⟨w.heap.size, 4, none⟩ = some (.int .i64 0) := blk_cell hk8 4
          have z5 : w8.cell? ⟨w.heap.size, 5, none⟩ = some (.string ⟨#[]⟩) := blk_cell hk8 5
          have z6 : w8.cell? ⟨w.heap.size, 6, none⟩ = some (.int .i64 0) := blk_cell hk8 6
          have z7 : w8.cell? ⟨w.heap.size, 7, none⟩ = some (.string ⟨#[]⟩) := blk_cell hk8 7
          refine bodyPost_ret (v := .tuple #[pkV pk0, .int .i64 1]) ?_ rfl ?_
          · rw [results_cell_tmp rfl]
            go_simp
            rfl
          · have h9 := HXQ.out
            injection h9 with h9 h10
            subst h9 h10
            exact ⟨rfl, hb8⟩
end Go.Proofs.Ytmdkgbbgppiaaaa
