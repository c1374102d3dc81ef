/- The reference's Get. -/
import Derived.Test.YtabcaeckoghmpaaDoorPkRPut
import Derived.Test.YtabcaeckoghmpaaDoorPRef4b
namespace Go.Proofs.YtabcaeckoghmpaaDoor
set_option linter.unusedVariables false
set_option linter.unusedSimpArgs false
open Go.RowKit Go.Proofs.YtabcaeckoghmpaaDoorW.PrintWords

set_option maxRecDepth 100000 in
set_option maxHeartbeats 1000000 in
theorem rget_short (A : Option Addr) (n c : Nat) (bs : List Int) (w : World) (hn : n = bs.length) (hr : ReadsInt w .u8 A n bs) (hc : n ≤ c) (hs : bs.length < 14) :
    Calls Tryd.prog 14 #[.slice A n c] w fun e w' => e = .returned (.tuple #[pkV pk0, .int .i64 2]) ∧ Below w.heap.size w w' := by
  have hm := hr.2.1
  subst hn
  have hb1 : decide ((bs.length : Int) < 14) = true := decide_eq_true (by omega)
  have hb2 : decide (bs.length < 14) = true := decide_eq_true hs
  go_enter Tryd.func14, Tryd.ntmps14
  go_wp2_with fail
  refine bodyPost_ret (v := .tuple #[pkV pk0, .int .i64 2]) ?_ rfl ?_
  · rw [results_cell_tmp rfl]
    go_simp
    rfl
  · exact ⟨rfl, (Below.refl _ _).alloc (Nat.le_refl _) _⟩

set_option maxRecDepth 100000 in
set_option maxHeartbeats 4000000 in
theorem rget_long (A : Option Addr) (n c : Nat) (bs : List Int) (w : World) (hn : n = bs.length) (hr : ReadsInt w .u8 A n bs) (hc : n ≤ c) (hs : 14 ≤ bs.length) (hl : bs.length ≤ 2097152) (hw : ∀ x ∈ bs, 0 ≤ x ∧ x ≤ 255) (p : Pk) (er : Nat) (hp : Aside0 (getB bs = (p, er))) :
    Calls Tryd.prog 14 #[.slice A n c] w fun e w' => e = .returned (.tuple #[pkV p, .int .i64 (er : Int)]) ∧ Below w.heap.size w w' := by
  have HW := Aside0.mk hw
  clear hw
  subst hn
  have HRB := Aside0.mk hr
  have hb1 : decide ((bs.length : Int) < 14) = false := decide_eq_false (by omega)
  have hb2 : decide (bs.length < 14) = false := decide_eq_false (by omega)
  obtain ⟨i0, hi, _, hsz, _⟩ := info_parts info5
  obtain ⟨A1, hd1, hd2⟩ := drop_int (P := Tryd.prog) (k := .u8) 24 5 Tryd.underlying24 hi hsz A c bs 4 (by omega) hc
  have hcut1 := fun W => hd1 W 4 rfl
  have hrx := hd2 w hr
  clear hd1 hd2 hi hsz
  obtain ⟨X, hX⟩ : ∃ X, bs.drop 4 = X := ⟨_, rfl⟩
  obtain ⟨xl, hxl⟩ : ∃ n, bs.length - 4 = n := ⟨_, rfl⟩
  have hXl : X.length = xl := by rw [← hX, List.length_drop, hxl]
  rw [hX, hxl] at hrx
  simp only [hxl] at hcut1
  obtain ⟨c4, hc4⟩ : ∃ d, c - 4 = d := ⟨_, rfl⟩
  simp only [hc4] at hcut1
  have HXW := Aside0.mk (show ∀ x ∈ X, 0 ≤ x ∧ x ≤ 255 from fun x hx => HW.out x (List.mem_of_mem_drop (hX ▸ hx)))
  have HX := Aside0.mk hX
  obtain ⟨q, hq⟩ : ∃ q, crcF 0 X = q := ⟨_, rfl⟩
  have hql : q < 4294967296 := by rw [← hq]; exact crcF_lt _ _
  obtain ⟨f0, hf0⟩ : ∃ f, fourN bs ((0 : Int).toNat) = f := ⟨_, rfl⟩
  have HF0 := Aside0.mk hf0
  have hfl : f0 < 4294967296 := by rw [← hf0]; exact fourN_lt bs HW.out _
  obtain ⟨D, hD⟩ : ∃ D, (!decide (f0 = q)) = D := ⟨_, rfl⟩
  have hcmp : ((f0 : Int) != (q : Int)) = D := by
    rw [← hD]
    by_cases h : f0 = q
    · rw [decide_eq_true h, h]; simp
    · rw [decide_eq_false h, Bool.not_false, bne_iff_ne]; omega
  have HPI : Aside0 (if D = true then p = pk0 ∧ er = 16 else getX X = (p, er)) := ⟨by
    have h := hp.out
    rw [getB, if_neg (by omega), hX, hq] at h
    have h4 := le4_four bs HW.out 0 q (by omega) hql
    rw [List.drop_zero] at h4
    rw [← hD]
    by_cases e : f0 = q
    · have e2 : le4 q = bs.take 4 := h4.2 (by rw [← e, ← hf0]; rfl)
      rw [if_neg (by simp [e2])] at h
      rw [decide_eq_true e]
      exact h
    · have e2 : le4 q ≠ bs.take 4 := fun e3 => e (by rw [h4.1 e3, ← hf0]; rfl)
      rw [if_pos e2] at h
      rw [decide_eq_false e]
      cases h
      exact ⟨rfl, rfl⟩⟩
  have HDD := Aside0.mk hD; have HQ := Aside0.mk hq
  have HRX := Aside0.mk hrx; have HXL := Aside0.mk hXl
  have HBK := Aside0.mk (heap_alloc_new w (.cells #[.int .i64 0, .int .i64 0, .int .i64 0, .int .i64 0, .int .i64 0, .string ByteArray.empty, .int .i64 0, .string ByteArray.empty] 23))
  have HB0 : Aside0 (Below w.heap.size w (w.alloc (.cells #[.int .i64 0, .int .i64 0, .int .i64 0, .int .i64 0, .int .i64 0, .string ByteArray.empty, .int .i64 0, .string ByteArray.empty] 23))) := ⟨(Below.refl _ _).alloc (Nat.le_refl _) _⟩
  have hp0 := Aside0.mk hp.out
  clear hD hq hrx hXl hX hr hf0 hp
  go_enter Tryd.func14, Tryd.ntmps14
  go_wp2_with fail
  change Code.wp _ _ _ _ (w.alloc (.cells #[.int .i64 0, .int .i64 0, .int .i64 0, .int .i64 0, .int .i64 0, .string ByteArray.empty, .int .i64 0, .string ByteArray.empty] 23))
  obtain ⟨w0, hw0⟩ : ∃ w0, w.alloc (.cells #[.int .i64 0, .int .i64 0, .int .i64 0, .int .i64 0, .int .i64 0, .string ByteArray.empty, .int .i64 0, .string ByteArray.empty] 23) = w0 := ⟨_, rfl⟩
  rw [hw0] at HBK HB0 ⊢
  clear hw0
  have HRX0 := Aside0.mk (HRX.out.below HB0.out)
  have HR0 := Aside0.mk (HRB.out.below HB0.out)
  have HD0 := Aside0.mk (show Below w0.heap.size w0 w0.drew from (Below.refl _ _).drew)
  go_cut [17] (fun v wc => v = .bool D ∧ Aside0 (Below w0.heap.size w0 wc))
  case first =>
    go_region_held (fun W => True) (trivial)
      (first
        | (go_at_call 26; refine (rfour_new A _ c 0 bs _ rfl (HR0.out.below (Aside0.out (by assumption))) HW.out (by decide) (by omega) f0 HF0).mono ?_; rintro e w5 ⟨rfl, kk, hw5⟩; have HBf : Aside0 (Below w0.heap.size w0 w5) := ⟨by rw [hw5]; exact pw_below_drewN (Aside0.out (by assumption)) kk⟩; clear hw5)
        | (go_at_call 24; refine (rmore_new A1 xl c4 0 X _ HXL.out.symm (HRX0.out.below (Aside0.out (by assumption))) (by decide) (by decide) HXW.out).mono ?_; rintro e w6 ⟨r, rfl, hrr, rfl⟩; have hrq : r = (q : Int) := by rw [hrr.out, ← HQ.out]; rfl
           subst hrq; clear hrr))
    all_goals
      go_wp2
      go_meet
      case rel => exact ⟨rfl, by assumption⟩
  case rest =>
    obtain ⟨wb, hwb⟩ : ∃ wb, wb = wc := ⟨_, rfl⟩
    subst hwb
    obtain ⟨rfl, HBc⟩ := hcut
    have HBlk : Aside0 (wb.heap[w.heap.size]? = some (.cells #[.int .i64 0, .int .i64 0, .int .i64 0, .int .i64 0, .int .i64 0, .string ByteArray.empty, .int .i64 0, .string ByteArray.empty] 23)) := ⟨by rw [HBc.out.block _ (blk_lt HBK.out)]; exact HBK.out⟩
    have HBd := Aside0.mk (HB0.out.trans (HBc.out.mono HB0.out.size))
    have HRc := Aside0.mk (HR0.out.below HBc.out)
    have hgs := blk_lt HBlk.out
    have HPO := HPI.out
    clear hcmp
    cases D with
    | true =>
      rw [if_pos rfl] at HPO
      obtain ⟨rfl, rfl⟩ := HPO
      have hblk9 : wb.heap[w.heap.size]? = some (.cells #[.int .i64 0, .int .i64 0, .int .i64 0, .int .i64 0, .int .i64 0, .string ByteArray.empty, .int .i64 0, .string ByteArray.empty] 23) := HBlk.out
      have z0 : wb.cell? ⟨w.heap.size, 0, none⟩ = some (.int .i64 0) := blk_cell hblk9 0
      have z1 : wb.cell? ⟨w.heap.size, 1, none⟩ = some (.int .i64 0) := blk_cell hblk9 1
      have z2 : wb.cell? ⟨w.heap.size, 2, none⟩ = some (.int .i64 0) := blk_cell hblk9 2
      have z3 : wb.cell? ⟨w.heap.size, 3, none⟩ = some (.int .i64 0) := blk_cell hblk9 3
      have z4 : wb.cell? ⟨w.heap.size, 4, none⟩ = some (.int .i64 0) := blk_cell hblk9 4
      have z5 : wb.cell? ⟨w.heap.size, 5, none⟩ = some (.string ByteArray.empty) := blk_cell hblk9 5
      have z6 : wb.cell? ⟨w.heap.size, 6, none⟩ = some (.int .i64 0) := blk_cell hblk9 6
      have z7 : wb.cell? ⟨w.heap.size, 7, none⟩ = some (.string ByteArray.empty) := blk_cell hblk9 7
      have hfz := fun i => blk_frozen hblk9 i
      go_wp2_with fail
      change bodyPost _ _ _ _ _ (put8 wb w.heap.size (.int .i64 0) (.int .i64 0) (.int .i64 0) (.int .i64 0) (.int .i64 0) (.string ByteArray.empty) (.int .i64 0) (.string ByteArray.empty))
      have hb8 := put8_below HBd.out (Nat.le_refl w.heap.size) (.int .i64 0) (.int .i64 0) (.int .i64 0) (.int .i64 0) (.int .i64 0) (.string ByteArray.empty) (.int .i64 0) (.string ByteArray.empty)
      have hk8 := put8_blk hblk9 (.int .i64 0) (.int .i64 0) (.int .i64 0) (.int .i64 0) (.int .i64 0) (.string ByteArray.empty) (.int .i64 0) (.string ByteArray.empty)
      obtain ⟨w8, hw8⟩ : ∃ w8, put8 wb w.heap.size (.int .i64 0) (.int .i64 0) (.int .i64 0) (.int .i64 0) (.int .i64 0) (.string ByteArray.empty) (.int .i64 0) (.string ByteArray.empty) = w8 := ⟨_, rfl⟩
      rw [hw8] at hb8 hk8 ⊢
      clear hw8 z0 z1 z2 z3 z4 z5 z6 z7 hfz hblk9
      have z0 : w8.cell? ⟨w.heap.size, 0, none⟩ = some (.int .i64 0) := blk_cell hk8 0
      have z1 : w8.cell? ⟨w.heap.size, 1, none⟩ = some (.int .i64 0) := blk_cell hk8 1
      have z2 : w8.cell? ⟨w.heap.size, 2, none⟩ = some (.int .i64 0) := blk_cell hk8 2
      have z3 : w8.cell? ⟨w.heap.size, 3, none⟩ = some (.int .i64 0) := blk_cell hk8 3
      have z4 : w8.cell? ⟨w.heap.size, 4, none⟩ = some (.int .i64 0) := blk_cell hk8 4
      have z5 : w8.cell? ⟨w.heap.size, 5, none⟩ = some (.string ByteArray.empty) := blk_cell hk8 5
      have z6 : w8.cell? ⟨w.heap.size, 6, none⟩ = some (.int .i64 0) := blk_cell hk8 6
      have z7 : w8.cell? ⟨w.heap.size, 7, none⟩ = some (.string ByteArray.empty) := blk_cell hk8 7
      refine bodyPost_ret (v := .tuple #[pkV pk0, .int .i64 16]) ?_ rfl ?_
      · rw [results_cell_tmp rfl]
        go_simp
        rfl
      · exact ⟨rfl, hb8⟩
    | false =>
      rw [if_neg (by decide)] at HPO
      have hadd : ∃ ad, A = some ad := by
        obtain ⟨ad, e, _⟩ := HRc.out.at_ 0 (by omega) (by omega)
        exact ⟨ad, e⟩
      obtain ⟨ad, rfl⟩ := hadd
      obtain ⟨_, e0, a0⟩ := HRc.out.at_ ((4 : Nat) : Int) (by omega) (by omega)
      cases e0
      obtain ⟨y0, hy0⟩ : ∃ y : Nat, rd bs ((4 : Nat) : Int) = (y : Int) := ⟨_, (Int.toNat_of_nonneg (rd_byte bs HW.out 4).1).symm⟩
      have l0 := (rd_byte bs HW.out 4).2
      rw [hy0] at a0 l0
      rw [Int.toNat_natCast, show ad.add 4 = ⟨ad.block, ad.off + 4, none⟩ by rw [Addr.add, if_neg (by omega)]] at a0
      obtain ⟨_, e1, a1⟩ := HRc.out.at_ ((5 : Nat) : Int) (by omega) (by omega)
      cases e1
      obtain ⟨y1, hy1⟩ : ∃ y : Nat, rd bs ((5 : Nat) : Int) = (y : Int) := ⟨_, (Int.toNat_of_nonneg (rd_byte bs HW.out 5).1).symm⟩
      have l1 := (rd_byte bs HW.out 5).2
      rw [hy1] at a1 l1
      rw [Int.toNat_natCast, show ad.add 5 = ⟨ad.block, ad.off + 5, none⟩ by rw [Addr.add, if_neg (by omega)]] at a1
      obtain ⟨_, e2, a2⟩ := HRc.out.at_ ((6 : Nat) : Int) (by omega) (by omega)
      cases e2
      obtain ⟨y2, hy2⟩ : ∃ y : Nat, rd bs ((6 : Nat) : Int) = (y : Int) := ⟨_, (Int.toNat_of_nonneg (rd_byte bs HW.out 6).1).symm⟩
      have l2 := (rd_byte bs HW.out 6).2
      rw [hy2] at a2 l2
      rw [Int.toNat_natCast, show ad.add 6 = ⟨ad.block, ad.off + 6, none⟩ by rw [Addr.add, if_neg (by omega)]] at a2
      obtain ⟨_, e3, a3⟩ := HRc.out.at_ ((7 : Nat) : Int) (by omega) (by omega)
      cases e3
      obtain ⟨y3, hy3⟩ : ∃ y : Nat, rd bs ((7 : Nat) : Int) = (y : Int) := ⟨_, (Int.toNat_of_nonneg (rd_byte bs HW.out 7).1).symm⟩
      have l3 := (rd_byte bs HW.out 7).2
      rw [hy3] at a3 l3
      rw [Int.toNat_natCast, show ad.add 7 = ⟨ad.block, ad.off + 7, none⟩ by rw [Addr.add, if_neg (by omega)]] at a3
      obtain ⟨_, e4, a4⟩ := HRc.out.at_ ((8 : Nat) : Int) (by omega) (by omega)
      cases e4
      obtain ⟨y4, hy4⟩ : ∃ y : Nat, rd bs ((8 : Nat) : Int) = (y : Int) := ⟨_, (Int.toNat_of_nonneg (rd_byte bs HW.out 8).1).symm⟩
      have l4 := (rd_byte bs HW.out 8).2
      rw [hy4] at a4 l4
      rw [Int.toNat_natCast, show ad.add 8 = ⟨ad.block, ad.off + 8, none⟩ by rw [Addr.add, if_neg (by omega)]] at a4
      have HY := Aside0.mk (And.intro hy0 (And.intro hy1 (And.intro hy2 (And.intro hy3 hy4))))
      have HA := Aside0.mk (And.intro a0 (And.intro a1 (And.intro a2 (And.intro a3 a4))))
      clear hy0 hy1 hy2 hy3 hy4
      have HCX := Aside0.mk (fun W (hW : Below wb.heap.size wb W) => (show W.cell? ⟨ad.block, ad.off + 4, none⟩ = some (.int .u8 (y0 : Int)) ∧ W.cell? ⟨ad.block, ad.off + 5, none⟩ = some (.int .u8 (y1 : Int)) ∧ W.cell? ⟨ad.block, ad.off + 6, none⟩ = some (.int .u8 (y2 : Int)) ∧ W.cell? ⟨ad.block, ad.off + 7, none⟩ = some (.int .u8 (y3 : Int)) ∧ W.cell? ⟨ad.block, ad.off + 8, none⟩ = some (.int .u8 (y4 : Int)) from ⟨pw_cell_below hW a0, pw_cell_below hW a1, pw_cell_below hW a2, pw_cell_below hW a3, pw_cell_below hW a4⟩))
      have HD9 := Aside0.mk (show Below wb.heap.size wb wb.drew from (Below.refl _ _).drew)
      have HDA := Aside0.mk (show Below wb.heap.size wb (wb.alloc (.cells #[.int .i64 0, .int .i64 0, .int .i64 0, .int .i64 0, .int .i64 0, .string ⟨#[]⟩, .int .i64 0, .string ⟨#[]⟩] 23)).drew from ((Below.refl _ _).alloc (Nat.le_refl _) _).drew)
      obtain ⟨gb, hgb⟩ : ∃ gb, wb.heap.size = gb := ⟨_, rfl⟩
      have HQ77 : Aside0 (∀ (kk : Nat) (w5 : World), w5 = (wb.alloc (.cells #[.int .i64 0, .int .i64 0, .int .i64 0, .int .i64 0, .int .i64 0, .string ⟨#[]⟩, .int .i64 0, .string ⟨#[]⟩] 23)).drew.drewN kk → w5.heap[gb]? = some (.cells #[.int .i64 0, .int .i64 0, .int .i64 0, .int .i64 0, .int .i64 0, .string ⟨#[]⟩, .int .i64 0, .string ⟨#[]⟩] 23 (0, 0)) ∧ w5.cell? ⟨gb, 0, none⟩ = some (.int .i64 0) ∧ w5.cell? ⟨gb, 1, none⟩ = some (.int .i64 0) ∧ w5.cell? ⟨gb, 2, none⟩ = some (.int .i64 0) ∧ w5.cell? ⟨gb, 3, none⟩ = some (.int .i64 0) ∧ w5.cell? ⟨gb, 4, none⟩ = some (.int .i64 0) ∧ w5.cell? ⟨gb, 5, none⟩ = some (.string ⟨#[]⟩) ∧ w5.cell? ⟨gb, 6, none⟩ = some (.int .i64 0) ∧ w5.cell? ⟨gb, 7, none⟩ = some (.string ⟨#[]⟩) ∧ ∀ i, w5.frozen? ⟨gb, i, none⟩ = false) := ⟨fun kk w5 h => by
        have h1 : w5.heap[gb]? = some (.cells #[.int .i64 0, .int .i64 0, .int .i64 0, .int .i64 0, .int .i64 0, .string ⟨#[]⟩, .int .i64 0, .string ⟨#[]⟩] 23 (0, 0)) := by rw [h, ← hgb]; exact heap_alloc_new wb _
        exact ⟨h1, blk_cell h1 0, blk_cell h1 1, blk_cell h1 2, blk_cell h1 3, blk_cell h1 4, blk_cell h1 5, blk_cell h1 6, blk_cell h1 7, fun i => blk_frozen h1 i⟩⟩
      have HGB := Aside0.mk (show wb.heap.size ≤ gb by rw [hgb]; exact Nat.le_refl _)
      have HSS : Aside0 (∀ (kk : Nat) (w5 : World), w5 = wb.drew.drewN kk → w5.heap.size = wb.heap.size) := ⟨fun kk w5 h => by rw [h]; rfl⟩
      obtain ⟨f9, hf9⟩ : ∃ f, fourN bs ((9 : Int).toNat) = f := ⟨_, rfl⟩
      have HF9 := Aside0.mk hf9
      have hf9l : f9 < 4294967296 := by rw [← hf9]; exact fourN_lt bs HW.out _
      have kf : IntKind.i64.wrap (f9 : Int) = (f9 : Int) := wrap_small _ (by omega) (by omega)
      clear hf9 hcut1 hb1 hb2
      have k0 : IntKind.i64.wrap (y0 : Int) = (y0 : Int) := wrap_small _ (by omega) (by omega)
      have g0 : (4 : Int) < (bs.length : Int) := by omega
      have h0 : 4 < bs.length := by omega
      have k1 : IntKind.i64.wrap (y1 : Int) = (y1 : Int) := wrap_small _ (by omega) (by omega)
      have g1 : (5 : Int) < (bs.length : Int) := by omega
      have h1 : 5 < bs.length := by omega
      have k2 : IntKind.i64.wrap (y2 : Int) = (y2 : Int) := wrap_small _ (by omega) (by omega)
      have g2 : (6 : Int) < (bs.length : Int) := by omega
      have h2 : 6 < bs.length := by omega
      have k3 : IntKind.i64.wrap (y3 : Int) = (y3 : Int) := wrap_small _ (by omega) (by omega)
      have g3 : (7 : Int) < (bs.length : Int) := by omega
      have h3 : 7 < bs.length := by omega
      have k4 : IntKind.i64.wrap (y4 : Int) = (y4 : Int) := wrap_small _ (by omega) (by omega)
      have g4 : (8 : Int) < (bs.length : Int) := by omega
      have h4 : 8 < bs.length := by omega
      go_wp2_with fail
      go_cut [4] (fun v wd => ∃ g, v = .pointer (some ⟨g, 0, none⟩) ∧ wb.heap.size ≤ g ∧ Aside0 (Below wb.heap.size wb wd) ∧ Aside0 (wd.heap[g]? = some (.cells #[.int .i64 (y0 : Int), .int .i64 (y1 : Int), .int .i64 (y2 : Int), .int .i64 (f9 : Int), .int .i64 (y3 : Int), .string ByteArray.empty, .int .i64 (y4 : Int), .string ByteArray.empty] 23)))
      case first =>
        go_region_held (fun W => W.cell? ⟨ad.block, ad.off + 4, none⟩ = some (.int .u8 (y0 : Int)) ∧ W.cell? ⟨ad.block, ad.off + 5, none⟩ = some (.int .u8 (y1 : Int)) ∧ W.cell? ⟨ad.block, ad.off + 6, none⟩ = some (.int .u8 (y2 : Int)) ∧ W.cell? ⟨ad.block, ad.off + 7, none⟩ = some (.int .u8 (y3 : Int)) ∧ W.cell? ⟨ad.block, ad.off + 8, none⟩ = some (.int .u8 (y4 : Int))) (first | with_reducible exact HCX.out _ HD9.out | with_reducible exact HCX.out _ HDA.out | with_reducible exact HCX.out _ HBf.out | with_reducible exact HCX.out _ (HBf.out.alloc HBfs.out _) | with_reducible exact HCX.out _ ((((((((HBf.out.setCell (p := ⟨gb, 0, none⟩) HGB.out _).setCell (p := ⟨gb, 1, none⟩) HGB.out _).setCell (p := ⟨gb, 2, none⟩) HGB.out _).setCell (p := ⟨gb, 3, none⟩) HGB.out _).setCell (p := ⟨gb, 4, none⟩) HGB.out _).setCell (p := ⟨gb, 5, none⟩) HGB.out _).setCell (p := ⟨gb, 6, none⟩) HGB.out _).setCell (p := ⟨gb, 7, none⟩) HGB.out _))
          (first
            | (go_at_call 26; refine (rfour_new (some ad) _ c 9 bs ((wb.alloc (.cells #[.int .i64 0, .int .i64 0, .int .i64 0, .int .i64 0, .int .i64 0, .string ⟨#[]⟩, .int .i64 0, .string ⟨#[]⟩] 23)).drew) rfl (HRc.out.below HDA.out) HW.out (by decide) (by omega) f9 HF9).mono ?_; rintro e w5 ⟨rfl, kk, hw5⟩; have HBf : Aside0 (Below wb.heap.size wb w5) := ⟨by rw [hw5]; exact pw_below_drewN HDA.out kk⟩; have HBfs := Aside0.mk HBf.out.size; obtain ⟨hbl5, zz0, zz1, zz2, zz3, zz4, zz5, zz6, zz7, hfz5⟩ := HQ77.out kk w5 hw5; have HBL5 := Aside0.mk hbl5; clear hw5 hbl5)
            | (go_at_call 26; refine (rfour_new (some ad) _ c 9 bs wb.drew rfl (HRc.out.below HD9.out) HW.out (by decide) (by omega) f9 HF9).mono ?_; rintro e w5 ⟨rfl, kk, hw5⟩; have HBf : Aside0 (Below wb.heap.size wb w5) := ⟨by rw [hw5]; exact pw_below_drewN HD9.out kk⟩; have HBfs := Aside0.mk HBf.out.size; have hsz5 := HSS.out kk w5 hw5; clear hw5))
        all_goals
          go_wp2
          go_meet
          case rel =>
            first
              | (have HB75 := HBL5; exact ⟨gb, rfl, HGB.out, ⟨put8_below HBf.out HGB.out _ _ _ _ _ _ _ _⟩, ⟨put8_blk HBL5.out _ _ _ _ _ _ _ _⟩⟩)
              | (have hq75 := hsz5; exact ⟨gb, rfl, HGB.out, ⟨HBf.out.alloc HBfs.out _⟩, ⟨by have h9 := heap_alloc_new w5 (.cells #[.int .i64 (y0 : Int), .int .i64 (y1 : Int), .int .i64 (y2 : Int), .int .i64 (f9 : Int), .int .i64 (y3 : Int), .string ByteArray.empty, .int .i64 (y4 : Int), .string ByteArray.empty] 23); rwa [hsz5, hgb] at h9⟩⟩)
      case rest =>
        obtain ⟨g, rfl, hgB, HBE, HBK2⟩ := hcut
        have HRr := Aside0.mk (HRc.out.below HBE.out)
        have HBW : Aside0 (wc.heap[w.heap.size]? = some (.cells #[.int .i64 0, .int .i64 0, .int .i64 0, .int .i64 0, .int .i64 0, .string ByteArray.empty, .int .i64 0, .string ByteArray.empty] 23)) := ⟨by rw [HBE.out.block _ hgs]; exact HBlk.out⟩
        have HBX := Aside0.mk (HBd.out.trans (HBE.out.mono HBd.out.size))
        have HGL := Aside0.mk (show g < wc.heap.size from blk_lt HBK2.out)
        clear HCX HD9 HDA HQ77 HSS HGB hgb HF0 k0 k1 k2 k3 k4 g0 g1 g2 g3 g4 h0 h1 h2 h3 h4 kf a0 a1 a2 a3 a4
        go_wp2_with fail
        refine (rget_new (some ad) _ c bs 13 wc rfl HRr.out HW.out).mono ?_
        rintro e w5 ⟨r1, r2, r3, rfl, HGV, rfl⟩
        have hx13 : X.drop 9 = bs.drop 13 := by rw [← HX.out, List.drop_drop]
        have hx9 : (X.take 9).length = 9 := by rw [List.length_take, HXL.out]; omega
        by_cases he : r3 = 0
        · subst he
          obtain ⟨m, r, rfl, hm64, rfl, hXr⟩ := getF_canon bs 13 r1 r2 (by omega) HW.out HGV.out
          have hlr : bs.length = 13 + ((enc 10 m).length + r.length) := by
            have h9 := congrArg List.length hXr
            rw [List.length_drop, List.length_append] at h9
            omega
          have hgx : getF X 9 = ((m : Int), ((9 + (enc 10 m).length : Nat) : Int), 0) := by
            have h9 := getF_enc (X.take 9) r m hm64
            rw [← hXr, ← hx13, List.take_append_drop, hx9] at h9
            exact h9
          rw [getX, hgx] at HPO
          simp only [Int.toNat_natCast, ne_eq, not_true_eq_false, false_or] at HPO
          rw [HXL.out] at HPO
          obtain ⟨el, hel⟩ : ∃ el, (enc 10 m).length = el := ⟨_, rfl⟩
          rw [hel] at HPO hlr
          obtain ⟨at_, hat⟩ : ∃ at_, 13 + (enc 10 m).length = at_ := ⟨_, rfl⟩
          have hat2 : at_ = 13 + el := by rw [← hat, hel]
          simp only [hat]
          have hat3 : at_ ≤ bs.length := by omega
          have hax : 9 + el = at_ - 4 := by omega
          rw [hax] at HPO
          have hat4 : 13 ≤ at_ := by omega
          clear hXr hel hat hlr hgx hx13 hx9 HGV hax hat2
          have hw1 : IntKind.i64.wrap ((bs.length : Int) - (at_ : Int)) = (bs.length : Int) - (at_ : Int) := wrap_small _ (by omega) (by omega)
          have hw2 : IntKind.u64.wrap ((bs.length : Int) - (at_ : Int)) = (bs.length : Int) - (at_ : Int) := wraps_u64 _ (by omega) (by omega)
          by_cases hmx : (bs.length : Int) - (at_ : Int) < (m : Int)
          · rw [if_pos (by omega)] at HPO
            cases HPO
            have hmb : decide ((bs.length : Int) - (at_ : Int) < (m : Int)) = true := decide_eq_true hmx
            have hblk9 : wc.heap[w.heap.size]? = some (.cells #[.int .i64 0, .int .i64 0, .int .i64 0, .int .i64 0, .int .i64 0, .string ByteArray.empty, .int .i64 0, .string ByteArray.empty] 23) := HBW.out
            have z0 : wc.cell? ⟨w.heap.size, 0, none⟩ = some (.int .i64 0) := blk_cell hblk9 0
            have z1 : wc.cell? ⟨w.heap.size, 1, none⟩ = some (.int .i64 0) := blk_cell hblk9 1
            have z2 : wc.cell? ⟨w.heap.size, 2, none⟩ = some (.int .i64 0) := blk_cell hblk9 2
            have z3 : wc.cell? ⟨w.heap.size, 3, none⟩ = some (.int .i64 0) := blk_cell hblk9 3
            have z4 : wc.cell? ⟨w.heap.size, 4, none⟩ = some (.int .i64 0) := blk_cell hblk9 4
            have z5 : wc.cell? ⟨w.heap.size, 5, none⟩ = some (.string ByteArray.empty) := blk_cell hblk9 5
            have z6 : wc.cell? ⟨w.heap.size, 6, none⟩ = some (.int .i64 0) := blk_cell hblk9 6
            have z7 : wc.cell? ⟨w.heap.size, 7, none⟩ = some (.string ByteArray.empty) := blk_cell hblk9 7
            have hfz := fun i => blk_frozen hblk9 i
            go_wp2_with fail
            change bodyPost _ _ _ _ _ (put8 wc w.heap.size (.int .i64 0) (.int .i64 0) (.int .i64 0) (.int .i64 0) (.int .i64 0) (.string ByteArray.empty) (.int .i64 0) (.string ByteArray.empty))
            have hb8 := put8_below HBX.out (Nat.le_refl w.heap.size) (.int .i64 0) (.int .i64 0) (.int .i64 0) (.int .i64 0) (.int .i64 0) (.string ByteArray.empty) (.int .i64 0) (.string ByteArray.empty)
            have hk8 := put8_blk hblk9 (.int .i64 0) (.int .i64 0) (.int .i64 0) (.int .i64 0) (.int .i64 0) (.string ByteArray.empty) (.int .i64 0) (.string ByteArray.empty)
            obtain ⟨w8, hw8⟩ : ∃ w8, put8 wc w.heap.size (.int .i64 0) (.int .i64 0) (.int .i64 0) (.int .i64 0) (.int .i64 0) (.string ByteArray.empty) (.int .i64 0) (.string ByteArray.empty) = w8 := ⟨_, rfl⟩
            rw [hw8] at hb8 hk8 ⊢
            clear hw8 z0 z1 z2 z3 z4 z5 z6 z7 hfz hblk9
            have z0 : w8.cell? ⟨w.heap.size, 0, none⟩ = some (.int .i64 0) := blk_cell hk8 0
            have z1 : w8.cell? ⟨w.heap.size, 1, none⟩ = some (.int .i64 0) := blk_cell hk8 1
            have z2 : w8.cell? ⟨w.heap.size, 2, none⟩ = some (.int .i64 0) := blk_cell hk8 2
            have z3 : w8.cell? ⟨w.heap.size, 3, none⟩ = some (.int .i64 0) := blk_cell hk8 3
            have z4 : w8.cell? ⟨w.heap.size, 4, none⟩ = some (.int .i64 0) := blk_cell hk8 4
            have z5 : w8.cell? ⟨w.heap.size, 5, none⟩ = some (.string ByteArray.empty) := blk_cell hk8 5
            have z6 : w8.cell? ⟨w.heap.size, 6, none⟩ = some (.int .i64 0) := blk_cell hk8 6
            have z7 : w8.cell? ⟨w.heap.size, 7, none⟩ = some (.string ByteArray.empty) := blk_cell hk8 7
            refine bodyPost_ret (v := .tuple #[pkV pk0, .int .i64 3]) ?_ rfl ?_
            · rw [results_cell_tmp rfl]
              go_simp
              rfl
            · exact ⟨rfl, hb8⟩
          · rw [if_neg (by omega)] at HPO
            have hmb : decide ((bs.length : Int) - (at_ : Int) < (m : Int)) = false := decide_eq_false hmx
            have hmt : at_ + m ≤ bs.length := by omega
            obtain ⟨i1, hi1, _, hsz1, _⟩ := info_parts info5
            obtain ⟨A5, hmc, hmr⟩ := mid_int (P := Tryd.prog) (k := .u8) 24 5 Tryd.underlying24 hi1 hsz1 (some ad) c bs at_ (at_ + m) (by omega) (by omega) (by omega)
            obtain ⟨A6, hdc, hdr⟩ := drop_int (P := Tryd.prog) (k := .u8) 24 5 Tryd.underlying24 hi1 hsz1 (some ad) c bs (at_ + m) (by omega) (by omega)
            simp only [Nat.add_sub_cancel_left] at hmc hmr
            have hcm := fun W => hmc W (at_ : Int) ((at_ : Int) + (m : Int)) rfl (by omega)
            have hcd := fun W => hdc W ((at_ : Int) + (m : Int)) (by omega)
            obtain ⟨c5, hc5⟩ : ∃ c5, c - at_ = c5 := ⟨_, rfl⟩
            obtain ⟨c6, hc6⟩ : ∃ c6, c - (at_ + m) = c6 := ⟨_, rfl⟩
            obtain ⟨n6, hn6⟩ : ∃ n6, bs.length - (at_ + m) = n6 := ⟨_, rfl⟩
            simp only [hc5] at hcm
            simp only [hc6, hn6] at hcd
            rw [hn6] at hdr
            obtain ⟨ms, hms⟩ : ∃ s, strOfNums ((bs.drop at_).take m) = s := ⟨_, rfl⟩
            obtain ⟨bo, hbo⟩ : ∃ s, strOfNums (bs.drop (at_ + m)) = s := ⟨_, rfl⟩
            obtain ⟨sb, hsb⟩ : ∃ s, strOfNums bs = s := ⟨_, rfl⟩
            have hRg : ∀ W, Below wb.heap.size wb W → ReadsInt W .u8 (some ad) bs.length bs := fun W hW => HRc.out.below hW
            have HRG := Aside0.mk hRg
            have hv1 : (convert 24 9 (.slice A5 m c5)).run Tryd.prog wc = .ok (.string ms) wc := by rw [← hms]; exact str_reads (hmr wc HRr.out)
            have hbe1 : Below wb.heap.size wb (wc.setCell ⟨g, 5, none⟩ (.string ms)) := HBE.out.setCell (p := ⟨g, 5, none⟩) hgB _
            have hv2 : (convert 24 9 (.slice A6 n6 c6)).run Tryd.prog (wc.setCell ⟨g, 5, none⟩ (.string ms)) = .ok (.string bo) (wc.setCell ⟨g, 5, none⟩ (.string ms)) := by rw [← hbo]; exact str_reads (hdr _ (hRg _ hbe1))
            have HMS := Aside0.mk hms
            have HBO := Aside0.mk hbo
            have HSB := Aside0.mk hsb
            have hw3 : IntKind.i64.wrap (m : Int) = (m : Int) := wrap_small _ (by omega) (by omega)
            have hw4 : IntKind.i64.wrap ((at_ : Int) + (m : Int)) = (at_ : Int) + (m : Int) := wrap_small _ (by omega) (by omega)
            have h5 : wc.cell? ⟨g, 5, none⟩ = some (.string ByteArray.empty) := blk_cell HBK2.out 5
            have h7 : wc.cell? ⟨g, 7, none⟩ = some (.string ByteArray.empty) := blk_cell HBK2.out 7
            have hfz : ∀ i, wc.frozen? ⟨g, i, none⟩ = false := fun i => blk_frozen HBK2.out i
            clear hmc hmr hdc hdr hms hbo hsb hRg hi1 hsz1 hbe1
            go_upto_region 11 with fail
            change Code.wp _ _ _ _ ((wc.setCell ⟨g, 5, none⟩ (.string ms)).setCell ⟨g, 7, none⟩ (.string bo))
            have HKD : Aside0 (((wc.setCell ⟨g, 5, none⟩ (.string ms)).setCell ⟨g, 7, none⟩ (.string bo)).heap[g]? = some (.cells #[.int .i64 (y0 : Int), .int .i64 (y1 : Int), .int .i64 (y2 : Int), .int .i64 (f9 : Int), .int .i64 (y3 : Int), .string ms, .int .i64 (y4 : Int), .string bo] 23 (0, 0))) := ⟨by
              have h9 := blk_set (blk_set HBK2.out 5 (.string ms)) 7 (.string bo)
              simp only [List.setIfInBounds_toArray, List.set_cons_zero, List.set_cons_succ] at h9
              exact h9⟩
            have HBF := Aside0.mk ((HBE.out.setCell (p := ⟨g, 5, none⟩) hgB (.string ms)).setCell (p := ⟨g, 7, none⟩) hgB (.string bo))
            obtain ⟨wd, hwd⟩ : ∃ wd, (wc.setCell ⟨g, 5, none⟩ (.string ms)).setCell ⟨g, 7, none⟩ (.string bo) = wd := ⟨_, rfl⟩
            rw [hwd] at HKD HBF ⊢
            clear hwd h5 h7 hfz hv1 hv2 hcm hcd
            have HBXD := Aside0.mk (HBd.out.trans (HBF.out.mono HBd.out.size))
            have HBWD : Aside0 (wd.heap[w.heap.size]? = some (.cells #[.int .i64 0, .int .i64 0, .int .i64 0, .int .i64 0, .int .i64 0, .string ByteArray.empty, .int .i64 0, .string ByteArray.empty] 23)) := ⟨by rw [HBF.out.block _ hgs]; exact HBlk.out⟩
            have hgd : g < wd.heap.size := blk_lt HKD.out
            have hgw2 : w.heap.size < wd.heap.size := blk_lt HBWD.out
            have hrb : readB X m (at_ - 4) = ⟨(y0 : Int), (y1 : Int), (y2 : Int), (f9 : Int), (y3 : Int), ms, (y4 : Int), bo⟩  := by
              obtain ⟨z0, z1, z2, z3, z4⟩ := HY.out
              have e (i : Nat) : X.getD i 0 = bs.getD (4 + i) 0 := by
                rw [← HX.out, List.getD_eq_getElem?_getD, List.getElem?_drop, ← List.getD_eq_getElem?_getD]
              have e1 : X.drop (at_ - 4) = bs.drop at_ := by rw [← HX.out, List.drop_drop]; congr 1; omega
              have e2 : X.drop (at_ - 4 + m) = bs.drop (at_ + m) := by rw [← HX.out, List.drop_drop]; congr 1; omega
              have r0 (i : Nat) : bs.getD i 0 = rd bs (i : Int) := rfl
              have hid : bs.getD (4 + 5) 0 + 256 * bs.getD (4 + 6) 0 + 65536 * bs.getD (4 + 7) 0 + 16777216 * bs.getD (4 + 8) 0 = (f9 : Int) := by
                have b0 := rd_byte bs HW.out 9
                have b1 := rd_byte bs HW.out 10
                have b2 := rd_byte bs HW.out 11
                have b3 := rd_byte bs HW.out 12
                rw [← HF9.out, fourN]
                simp only [rd, Int.toNat_natCast] at b0 b1 b2 b3
                show bs.getD 9 0 + 256 * bs.getD 10 0 + 65536 * bs.getD 11 0 + 16777216 * bs.getD 12 0 = (((bs.getD 9 0).toNat + 256 * (bs.getD 10 0).toNat + 65536 * (bs.getD 11 0).toNat + 16777216 * (bs.getD 12 0).toNat : Nat) : Int)
                omega
              rw [readB, e1, e2, HMS.out, HBO.out, e 0, e 1, e 2, e 3, e 4, e 5, e 6, e 7, e 8, hid, r0 (4 + 0), r0 (4 + 1), r0 (4 + 2), r0 (4 + 3), r0 (4 + 4)]
              rw [show ((4 + 0 : Nat) : Int) = ((4 : Nat) : Int) from rfl, show ((4 + 1 : Nat) : Int) = ((5 : Nat) : Int) from rfl, show ((4 + 2 : Nat) : Int) = ((6 : Nat) : Int) from rfl, show ((4 + 3 : Nat) : Int) = ((7 : Nat) : Int) from rfl, show ((4 + 4 : Nat) : Int) = ((8 : Nat) : Int) from rfl, z0, z1, z2, z3, z4]
            rw [hrb] at HPO
            obtain ⟨v, hv⟩ : ∃ v, pkOk ⟨(y0 : Int), (y1 : Int), (y2 : Int), (f9 : Int), (y3 : Int), ms, (y4 : Int), bo⟩ = v := ⟨_, rfl⟩
            obtain ⟨zs, hz⟩ : ∃ zs, (if v then putB ⟨(y0 : Int), (y1 : Int), (y2 : Int), (f9 : Int), (y3 : Int), ms, (y4 : Int), bo⟩ else []) = zs := ⟨_, rfl⟩
            have HV := Aside0.mk hv
            have HZ := Aside0.mk hz
            rw [hv] at HPO
            have hmsz : ms.size ≤ 2097152 := by rw [← HMS.out, strOfNums_size, List.length_take, List.length_drop]; omega
            have hbsz : bo.size ≤ 4611686018427387904 := by rw [← HBO.out, strOfNums_size, List.length_drop]; omega
            obtain ⟨sz, hsz9⟩ : ∃ s, strOfNums zs = s := ⟨_, rfl⟩
            have HSZ := Aside0.mk hsz9
            have hcq : (sz.toList != sb.toList) = !v := by
              cases v with
              | true =>
                rw [if_pos rfl] at HPO
                cases HPO
                have h8 := (put_getB bs HW.out _ hp0.out).2
                have h9 : zs = bs := by rw [← hz]; exact h8
                rw [← hsz9, ← HSB.out, h9]
                simp
              | false =>
                have h9 : zs = [] := by rw [← hz]; rfl
                rw [bne_iff_ne.2]
                · rfl
                · intro h8
                  have h7 := toList_inj h8
                  have h6 : (strOfNums zs).size = (strOfNums bs).size := by rw [hsz9, HSB.out, h7]
                  rw [strOfNums_size, strOfNums_size, h9, List.length_nil] at h6
                  omega
            have HCW := Aside0.mk (fun W (hW : Below wd.heap.size wd W) => (show W.cell? ⟨g, 0, none⟩ = some (.int .i64 (y0 : Int)) ∧ W.cell? ⟨g, 1, none⟩ = some (.int .i64 (y1 : Int)) ∧ W.cell? ⟨g, 2, none⟩ = some (.int .i64 (y2 : Int)) ∧ W.cell? ⟨g, 3, none⟩ = some (.int .i64 (f9 : Int)) ∧ W.cell? ⟨g, 4, none⟩ = some (.int .i64 (y3 : Int)) ∧ W.cell? ⟨g, 5, none⟩ = some (.string ms) ∧ W.cell? ⟨g, 6, none⟩ = some (.int .i64 (y4 : Int)) ∧ W.cell? ⟨g, 7, none⟩ = some (.string bo) ∧ (convert 24 9 (.slice (some ad) bs.length c)).run Tryd.prog W = .ok (.string sb) W from ⟨pw_cell_below hW (blk_cell HKD.out 0), pw_cell_below hW (blk_cell HKD.out 1), pw_cell_below hW (blk_cell HKD.out 2), pw_cell_below hW (blk_cell HKD.out 3), pw_cell_below hW (blk_cell HKD.out 4), pw_cell_below hW (blk_cell HKD.out 5), pw_cell_below hW (blk_cell HKD.out 6), pw_cell_below hW (blk_cell HKD.out 7), by rw [← HSB.out]; exact str_reads (HRG.out W (HBF.out.trans (hW.mono HBF.out.size)))⟩))
            have HDD9 := Aside0.mk (show Below wd.heap.size wd wd.drew from (Below.refl _ _).drew)
            clear hv hz hrb hsz9
            go_cut [83] (fun v9 we => v9 = .bool (!v) ∧ Aside0 (Below wd.heap.size wd we))
            case first =>
              go_region_held (fun W => W.cell? ⟨g, 0, none⟩ = some (.int .i64 (y0 : Int)) ∧ W.cell? ⟨g, 1, none⟩ = some (.int .i64 (y1 : Int)) ∧ W.cell? ⟨g, 2, none⟩ = some (.int .i64 (y2 : Int)) ∧ W.cell? ⟨g, 3, none⟩ = some (.int .i64 (f9 : Int)) ∧ W.cell? ⟨g, 4, none⟩ = some (.int .i64 (y3 : Int)) ∧ W.cell? ⟨g, 5, none⟩ = some (.string ms) ∧ W.cell? ⟨g, 6, none⟩ = some (.int .i64 (y4 : Int)) ∧ W.cell? ⟨g, 7, none⟩ = some (.string bo) ∧ (convert 24 9 (.slice (some ad) bs.length c)).run Tryd.prog W = .ok (.string sb) W) (first | with_reducible exact HCW.out _ HDD9.out | with_reducible exact HCW.out _ HB66.out)
                ((go_at_call 11; refine (rput_pk ⟨(y0 : Int), (y1 : Int), (y2 : Int), (f9 : Int), (y3 : Int), ms, (y4 : Int), bo⟩ wd.drew hmsz hbsz v HV zs HZ).mono ?_; rintro e w6 ⟨v6, rfl, ho6, hb6⟩; have HB66 := Aside0.mk (HDD9.out.trans (hb6.out.mono HDD9.out.size)); have hk6 := str_own ho6.out; rw [HSZ.out] at hk6; have hk7 := (HCW.out _ HB66.out).2.2.2.2.2.2.2.2))
              all_goals
                go_wp2
                go_meet
                case rel => exact ⟨congrArg Value.bool hcq, HB66⟩
            case rest =>
              obtain ⟨rfl, HBe⟩ := hcut
              obtain ⟨we, hwe⟩ : ∃ we, we = wc := ⟨_, rfl⟩
              subst hwe
              have HKE : Aside0 (we.heap[g]? = some (.cells #[.int .i64 (y0 : Int), .int .i64 (y1 : Int), .int .i64 (y2 : Int), .int .i64 (f9 : Int), .int .i64 (y3 : Int), .string ms, .int .i64 (y4 : Int), .string bo] 23 (0, 0))) := ⟨by rw [HBe.out.block _ hgd]; exact HKD.out⟩
              have HBW9 : Aside0 (we.heap[w.heap.size]? = some (.cells #[.int .i64 0, .int .i64 0, .int .i64 0, .int .i64 0, .int .i64 0, .string ByteArray.empty, .int .i64 0, .string ByteArray.empty] 23)) := ⟨by rw [HBe.out.block _ hgw2]; exact HBWD.out⟩
              have HBX9 := Aside0.mk (HBXD.out.trans (HBe.out.mono HBXD.out.size))
              clear hcq
              cases v with
              | false =>
                rw [if_neg (by decide)] at HPO
                cases HPO
                have hblk9 : we.heap[w.heap.size]? = some (.cells #[.int .i64 0, .int .i64 0, .int .i64 0, .int .i64 0, .int .i64 0, .string ByteArray.empty, .int .i64 0, .string ByteArray.empty] 23) := HBW9.out
                have z0 : we.cell? ⟨w.heap.size, 0, none⟩ = some (.int .i64 0) := blk_cell hblk9 0
                have z1 : we.cell? ⟨w.heap.size, 1, none⟩ = some (.int .i64 0) := blk_cell hblk9 1
                have z2 : we.cell? ⟨w.heap.size, 2, none⟩ = some (.int .i64 0) := blk_cell hblk9 2
                have z3 : we.cell? ⟨w.heap.size, 3, none⟩ = some (.int .i64 0) := blk_cell hblk9 3
                have z4 : we.cell? ⟨w.heap.size, 4, none⟩ = some (.int .i64 0) := blk_cell hblk9 4
                have z5 : we.cell? ⟨w.heap.size, 5, none⟩ = some (.string ByteArray.empty) := blk_cell hblk9 5
                have z6 : we.cell? ⟨w.heap.size, 6, none⟩ = some (.int .i64 0) := blk_cell hblk9 6
                have z7 : we.cell? ⟨w.heap.size, 7, none⟩ = some (.string ByteArray.empty) := blk_cell hblk9 7
                have hfz := fun i => blk_frozen hblk9 i
                go_wp2_with fail
                change bodyPost _ _ _ _ _ (put8 we w.heap.size (.int .i64 0) (.int .i64 0) (.int .i64 0) (.int .i64 0) (.int .i64 0) (.string ByteArray.empty) (.int .i64 0) (.string ByteArray.empty))
                have hb8 := put8_below HBX9.out (Nat.le_refl w.heap.size) (.int .i64 0) (.int .i64 0) (.int .i64 0) (.int .i64 0) (.int .i64 0) (.string ByteArray.empty) (.int .i64 0) (.string ByteArray.empty)
                have hk8 := put8_blk hblk9 (.int .i64 0) (.int .i64 0) (.int .i64 0) (.int .i64 0) (.int .i64 0) (.string ByteArray.empty) (.int .i64 0) (.string ByteArray.empty)
                obtain ⟨w8, hw8⟩ : ∃ w8, put8 we w.heap.size (.int .i64 0) (.int .i64 0) (.int .i64 0) (.int .i64 0) (.int .i64 0) (.string ByteArray.empty) (.int .i64 0) (.string ByteArray.empty) = w8 := ⟨_, rfl⟩
                rw [hw8] at hb8 hk8 ⊢
                clear hw8 z0 z1 z2 z3 z4 z5 z6 z7 hfz hblk9
                have z0 : w8.cell? ⟨w.heap.size, 0, none⟩ = some (.int .i64 0) := blk_cell hk8 0
                have z1 : w8.cell? ⟨w.heap.size, 1, none⟩ = some (.int .i64 0) := blk_cell hk8 1
                have z2 : w8.cell? ⟨w.heap.size, 2, none⟩ = some (.int .i64 0) := blk_cell hk8 2
                have z3 : w8.cell? ⟨w.heap.size, 3, none⟩ = some (.int .i64 0) := blk_cell hk8 3
                have z4 : w8.cell? ⟨w.heap.size, 4, none⟩ = some (.int .i64 0) := blk_cell hk8 4
                have z5 : w8.cell? ⟨w.heap.size, 5, none⟩ = some (.string ByteArray.empty) := blk_cell hk8 5
                have z6 : w8.cell? ⟨w.heap.size, 6, none⟩ = some (.int .i64 0) := blk_cell hk8 6
                have z7 : w8.cell? ⟨w.heap.size, 7, none⟩ = some (.string ByteArray.empty) := blk_cell hk8 7
                refine bodyPost_ret (v := .tuple #[pkV pk0, .int .i64 3]) ?_ rfl ?_
                · rw [results_cell_tmp rfl]
                  go_simp
                  rfl
                · exact ⟨rfl, hb8⟩
              | true =>
                rw [if_pos rfl] at HPO
                cases HPO
                have hblk9 : we.heap[w.heap.size]? = some (.cells #[.int .i64 0, .int .i64 0, .int .i64 0, .int .i64 0, .int .i64 0, .string ByteArray.empty, .int .i64 0, .string ByteArray.empty] 23) := HBW9.out
                have z0 : we.cell? ⟨w.heap.size, 0, none⟩ = some (.int .i64 0) := blk_cell hblk9 0
                have z1 : we.cell? ⟨w.heap.size, 1, none⟩ = some (.int .i64 0) := blk_cell hblk9 1
                have z2 : we.cell? ⟨w.heap.size, 2, none⟩ = some (.int .i64 0) := blk_cell hblk9 2
                have z3 : we.cell? ⟨w.heap.size, 3, none⟩ = some (.int .i64 0) := blk_cell hblk9 3
                have z4 : we.cell? ⟨w.heap.size, 4, none⟩ = some (.int .i64 0) := blk_cell hblk9 4
                have z5 : we.cell? ⟨w.heap.size, 5, none⟩ = some (.string ByteArray.empty) := blk_cell hblk9 5
                have z6 : we.cell? ⟨w.heap.size, 6, none⟩ = some (.int .i64 0) := blk_cell hblk9 6
                have z7 : we.cell? ⟨w.heap.size, 7, none⟩ = some (.string ByteArray.empty) := blk_cell hblk9 7
                have p0 : we.cell? ⟨g, 0, none⟩ = some (.int .i64 (y0 : Int)) := blk_cell HKE.out 0
                have p1 : we.cell? ⟨g, 1, none⟩ = some (.int .i64 (y1 : Int)) := blk_cell HKE.out 1
                have p2 : we.cell? ⟨g, 2, none⟩ = some (.int .i64 (y2 : Int)) := blk_cell HKE.out 2
                have p3 : we.cell? ⟨g, 3, none⟩ = some (.int .i64 (f9 : Int)) := blk_cell HKE.out 3
                have p4 : we.cell? ⟨g, 4, none⟩ = some (.int .i64 (y3 : Int)) := blk_cell HKE.out 4
                have p5 : we.cell? ⟨g, 5, none⟩ = some (.string ms) := blk_cell HKE.out 5
                have p6 : we.cell? ⟨g, 6, none⟩ = some (.int .i64 (y4 : Int)) := blk_cell HKE.out 6
                have p7 : we.cell? ⟨g, 7, none⟩ = some (.string bo) := blk_cell HKE.out 7
                have hfz := fun i => blk_frozen hblk9 i
                go_wp2_with fail
                change bodyPost _ _ _ _ _ (put8 we w.heap.size (.int .i64 (y0 : Int)) (.int .i64 (y1 : Int)) (.int .i64 (y2 : Int)) (.int .i64 (f9 : Int)) (.int .i64 (y3 : Int)) (.string ms) (.int .i64 (y4 : Int)) (.string bo))
                have hb8 := put8_below HBX9.out (Nat.le_refl w.heap.size) (.int .i64 (y0 : Int)) (.int .i64 (y1 : Int)) (.int .i64 (y2 : Int)) (.int .i64 (f9 : Int)) (.int .i64 (y3 : Int)) (.string ms) (.int .i64 (y4 : Int)) (.string bo)
                have hk8 := put8_blk hblk9 (.int .i64 (y0 : Int)) (.int .i64 (y1 : Int)) (.int .i64 (y2 : Int)) (.int .i64 (f9 : Int)) (.int .i64 (y3 : Int)) (.string ms) (.int .i64 (y4 : Int)) (.string bo)
                obtain ⟨w8, hw8⟩ : ∃ w8, put8 we w.heap.size (.int .i64 (y0 : Int)) (.int .i64 (y1 : Int)) (.int .i64 (y2 : Int)) (.int .i64 (f9 : Int)) (.int .i64 (y3 : Int)) (.string ms) (.int .i64 (y4 : Int)) (.string bo) = w8 := ⟨_, rfl⟩
                rw [hw8] at hb8 hk8 ⊢
                clear hw8 z0 z1 z2 z3 z4 z5 z6 z7 hfz hblk9 p0 p1 p2 p3 p4 p5 p6 p7
                have z0 : w8.cell? ⟨w.heap.size, 0, none⟩ = some (.int .i64 (y0 : Int)) := blk_cell hk8 0
                have z1 : w8.cell? ⟨w.heap.size, 1, none⟩ = some (.int .i64 (y1 : Int)) := blk_cell hk8 1
                have z2 : w8.cell? ⟨w.heap.size, 2, none⟩ = some (.int .i64 (y2 : Int)) := blk_cell hk8 2
                have z3 : w8.cell? ⟨w.heap.size, 3, none⟩ = some (.int .i64 (f9 : Int)) := blk_cell hk8 3
                have z4 : w8.cell? ⟨w.heap.size, 4, none⟩ = some (.int .i64 (y3 : Int)) := blk_cell hk8 4
                have z5 : w8.cell? ⟨w.heap.size, 5, none⟩ = some (.string ms) := blk_cell hk8 5
                have z6 : w8.cell? ⟨w.heap.size, 6, none⟩ = some (.int .i64 (y4 : Int)) := blk_cell hk8 6
                have z7 : w8.cell? ⟨w.heap.size, 7, none⟩ = some (.string bo) := blk_cell hk8 7
                refine bodyPost_ret (v := .tuple #[pkV ⟨(y0 : Int), (y1 : Int), (y2 : Int), (f9 : Int), (y3 : Int), ms, (y4 : Int), bo⟩, .int .i64 0]) ?_ rfl ?_
                · rw [results_cell_tmp rfl]
                  go_simp
                  rfl
                · exact ⟨rfl, hb8⟩
        · have hgx : (getF X 9).2.2 ≠ 0 := by
            intro e0
            obtain ⟨s1, s2, s3, hs⟩ : ∃ s1 s2 s3, getF X 9 = (s1, s2, s3) := ⟨_, _, _, rfl⟩
            rw [hs] at e0
            simp only at e0
            subst e0
            obtain ⟨m, r, _, hm64, _, hXr⟩ := getF_canon X 9 s1 s2 (by rw [HXL.out]; omega) HXW.out hs
            have h9 := getF_enc (bs.take 13) r m hm64
            rw [← hXr, hx13, List.take_append_drop, show (bs.take 13).length = 13 by rw [List.length_take]; omega] at h9
            have h10 := HGV.out
            rw [show getF bs 13 = _ from h9] at h10
            exact he (congrArg (fun z => z.2.2) h10).symm
          rw [getX, if_pos (.inl hgx)] at HPO
          cases HPO
          have heb : (r3 == 0) = false := beq_eq_false_iff_ne.2 he
          have hblk9 : wc.heap[w.heap.size]? = some (.cells #[.int .i64 0, .int .i64 0, .int .i64 0, .int .i64 0, .int .i64 0, .string ByteArray.empty, .int .i64 0, .string ByteArray.empty] 23) := HBW.out
          have z0 : wc.cell? ⟨w.heap.size, 0, none⟩ = some (.int .i64 0) := blk_cell hblk9 0
          have z1 : wc.cell? ⟨w.heap.size, 1, none⟩ = some (.int .i64 0) := blk_cell hblk9 1
          have z2 : wc.cell? ⟨w.heap.size, 2, none⟩ = some (.int .i64 0) := blk_cell hblk9 2
          have z3 : wc.cell? ⟨w.heap.size, 3, none⟩ = some (.int .i64 0) := blk_cell hblk9 3
          have z4 : wc.cell? ⟨w.heap.size, 4, none⟩ = some (.int .i64 0) := blk_cell hblk9 4
          have z5 : wc.cell? ⟨w.heap.size, 5, none⟩ = some (.string ByteArray.empty) := blk_cell hblk9 5
          have z6 : wc.cell? ⟨w.heap.size, 6, none⟩ = some (.int .i64 0) := blk_cell hblk9 6
          have z7 : wc.cell? ⟨w.heap.size, 7, none⟩ = some (.string ByteArray.empty) := blk_cell hblk9 7
          have hfz := fun i => blk_frozen hblk9 i
          go_wp2_with fail
          change bodyPost _ _ _ _ _ (put8 wc w.heap.size (.int .i64 0) (.int .i64 0) (.int .i64 0) (.int .i64 0) (.int .i64 0) (.string ByteArray.empty) (.int .i64 0) (.string ByteArray.empty))
          have hb8 := put8_below HBX.out (Nat.le_refl w.heap.size) (.int .i64 0) (.int .i64 0) (.int .i64 0) (.int .i64 0) (.int .i64 0) (.string ByteArray.empty) (.int .i64 0) (.string ByteArray.empty)
          have hk8 := put8_blk hblk9 (.int .i64 0) (.int .i64 0) (.int .i64 0) (.int .i64 0) (.int .i64 0) (.string ByteArray.empty) (.int .i64 0) (.string ByteArray.empty)
          obtain ⟨w8, hw8⟩ : ∃ w8, put8 wc w.heap.size (.int .i64 0) (.int .i64 0) (.int .i64 0) (.int .i64 0) (.int .i64 0) (.string ByteArray.empty) (.int .i64 0) (.string ByteArray.empty) = w8 := ⟨_, rfl⟩
          rw [hw8] at hb8 hk8 ⊢
          clear hw8 z0 z1 z2 z3 z4 z5 z6 z7 hfz hblk9
          have z0 : w8.cell? ⟨w.heap.size, 0, none⟩ = some (.int .i64 0) := blk_cell hk8 0
          have z1 : w8.cell? ⟨w.heap.size, 1, none⟩ = some (.int .i64 0) := blk_cell hk8 1
          have z2 : w8.cell? ⟨w.heap.size, 2, none⟩ = some (.int .i64 0) := blk_cell hk8 2
          have z3 : w8.cell? ⟨w.heap.size, 3, none⟩ = some (.int .i64 0) := blk_cell hk8 3
          have z4 : w8.cell? ⟨w.heap.size, 4, none⟩ = some (.int .i64 0) := blk_cell hk8 4
          have z5 : w8.cell? ⟨w.heap.size, 5, none⟩ = some (.string ByteArray.empty) := blk_cell hk8 5
          have z6 : w8.cell? ⟨w.heap.size, 6, none⟩ = some (.int .i64 0) := blk_cell hk8 6
          have z7 : w8.cell? ⟨w.heap.size, 7, none⟩ = some (.string ByteArray.empty) := blk_cell hk8 7
          refine bodyPost_ret (v := .tuple #[pkV pk0, .int .i64 3]) ?_ rfl ?_
          · rw [results_cell_tmp rfl]
            go_simp
            rfl
          · exact ⟨rfl, hb8⟩
/-- The reference's Get. -/
theorem rget_pk (A : Option Addr) (n c : Nat) (bs : List Int) (w : World) (hn : n = bs.length) (hr : ReadsInt w .u8 A n bs) (hc : n ≤ c) (hl : bs.length ≤ 2097152) (hw : ∀ x ∈ bs, 0 ≤ x ∧ x ≤ 255) (p : Pk) (er : Nat) (hp : Aside0 (getB bs = (p, er))) :
    Calls Tryd.prog 14 #[.slice A n c] w fun e w' => e = .returned (.tuple #[pkV p, .int .i64 (er : Int)]) ∧ Below w.heap.size w w' := by
  by_cases h : bs.length < 14
  · have e := hp.out
    rw [getB, if_pos h] at e
    cases e
    exact rget_short A n c bs w hn hr hc h
  · exact rget_long A n c bs w hn hr hc (by omega) hl hw p er hp
end Go.Proofs.YtabcaeckoghmpaaDoor
