/- packet.Put. -/
import Derived.Test.YtabcaeckoghmpaaDoorPkStep
namespace Go.Proofs.YtabcaeckoghmpaaDoor
set_option linter.unusedVariables false
set_option linter.unusedSimpArgs false
open Go.RowKit Go.Proofs.YtabcaeckoghmpaaDoorW.PrintWords

set_option maxRecDepth 100000 in
set_option maxHeartbeats 1000000 in
theorem put_no (kind fr to_ id ver : Int) (meth : ByteArray) (err : Int) (body : ByteArray) (w : World) (hm : meth.size ≤ 4611686018427387904) (hbz : body.size ≤ 4611686018427387904) (hT : Tabs w) (hv : Aside0 (pkOk ⟨kind, fr, to_, id, ver, meth, err, body⟩ = false)) :
    Calls Tryd.prog 10 #[.agg #[.int .i64 kind, .int .i64 fr, .int .i64 to_, .int .i64 id, .int .i64 ver, .string meth, .int .i64 err, .string body]] w fun e w' => e = .returned (.tuple #[.slice none 0 0, .bool false]) ∧ Below w.heap.size w w' := by
  have HT := Aside0.mk hT
  clear hT
  have HB0 : Aside0 (Below w.heap.size w (w.alloc (.cells #[.int .i64 kind, .int .i64 fr, .int .i64 to_, .int .i64 id, .int .i64 ver, .string meth, .int .i64 err, .string body] 23))) := ⟨(Below.refl _ _).alloc (Nat.le_refl _) _⟩
  go_enter Tryd.func10, Tryd.ntmps10
  go_wp2_with fail
  refine (check_at kind fr to_ id ver meth err body _ hm hbz (tabs_below HT.out HB0.out) false hv).mono ?_
  rintro e w2 ⟨rfl, hB2⟩
  have HB2 := Aside0.mk (HB0.out.trans (hB2.mono HB0.out.size))
  clear hB2
  go_wp2
  go_ret2
  exact ⟨rfl, HB2.out⟩

theorem number_rel (w3 : World) (v : Nat) (W : World) (hb : Aside0 (Below w3.heap.size w3 W)) (hv : v < 4294967296) (L : List Int) (hL : Aside0 (le4 v = L)) :
    Calls Tryd.prog 19 #[.int .i64 (v : Int)] W fun e w' => ∃ A c, e = .returned (.slice A L.length c) ∧ Aside0 (ReadsInt w' .u8 A L.length L) ∧ Aside0 (w'.ownsRow w3.heap.size 5 1 (.slice A L.length c) L.length (nums .u8 L)) ∧ Aside0 (Below w3.heap.size w3 w') ∧ Aside0 (Below W.heap.size W w') :=
  (number_any v W hv L hL).mono fun e w' ⟨v', h1, h2, h3⟩ => by
    have hl : 4 = L.length := by rw [← hL.out]; rfl
    have h4 := h2.out
    rw [hl] at h4
    obtain ⟨A, c, rfl, hr⟩ := own_reads h4
    exact ⟨A, c, h1, ⟨hr⟩, ⟨own_less h4 hb.out.size⟩, ⟨hb.out.trans (h3.out.mono hb.out.size)⟩, h3⟩

theorem pvput_rel (w3 W : World) (hb : Aside0 (Below w3.heap.size w3 W)) (A : Option Addr) (c : Nat) (xs : List Int) (hr : Aside0 (ReadsInt w3 .u8 A xs.length xs)) (hc : xs.length ≤ c) (v : Nat) (hv : v < 18446744073709551616) (hl : xs.length ≤ 100000) (zs : List Int) (hz : Aside0 (xs ++ enc 10 v = zs)) :
    Calls Tryd.prog 20 #[.slice A xs.length c, .int .u64 (v : Int)] W fun e w' => ∃ A' c', e = .returned (.slice A' zs.length c') ∧ Aside0 (w'.ownsRow w3.heap.size 5 1 (.slice A' zs.length c') zs.length (nums .u8 zs)) ∧ Aside0 (Below w3.heap.size w3 w') :=
  (vput_new A c xs v W (hr.out.below hb.out) hc hv (by omega)).mono fun e w' ⟨v', ys, h1, h2, h3, h4⟩ => by
    have h5 := h2.out
    rw [hz.out] at h5
    subst h5
    obtain ⟨A', c', rfl, _⟩ := own_reads h3.out
    exact ⟨A', c', h1, ⟨own_less h3.out hb.out.size⟩, ⟨hb.out.trans (h4.out.mono hb.out.size)⟩⟩

set_option maxRecDepth 100000 in
set_option maxHeartbeats 4000000 in
theorem put_yes (k1 k2 k3 k4 k5 k6 : Nat) (meth body : ByteArray) (w : World) (hT : Tabs w) (h1 : k1 < 256) (h2 : k2 < 256) (h3 : k3 < 256) (h4 : k4 < 4294967296) (h5 : k5 < 256) (h6 : k6 < 256) (hm : meth.size ≤ 80) (hbz : body.size ≤ 4096)
    (hv : Aside0 (pkOk ⟨k1, k2, k3, k4, k5, meth, k6, body⟩ = true)) (zs : List Int) (hz : Aside0 (putB ⟨k1, k2, k3, k4, k5, meth, k6, body⟩ = zs)) :
    Calls Tryd.prog 10 #[.agg #[.int .i64 (k1 : Int), .int .i64 (k2 : Int), .int .i64 (k3 : Int), .int .i64 (k4 : Int), .int .i64 (k5 : Int), .string meth, .int .i64 (k6 : Int), .string body]] w
      fun e w' => ∃ v', e = .returned (.tuple #[v', .bool true]) ∧ Aside0 (w'.ownsRow w.heap.size 5 1 v' zs.length (nums .u8 zs)) ∧ Aside0 (Below w.heap.size w w') := by
  have HT := Aside0.mk hT
  clear hT
  have HB0 : Aside0 (Below w.heap.size w (w.alloc (.cells #[.int .i64 (k1 : Int), .int .i64 (k2 : Int), .int .i64 (k3 : Int), .int .i64 (k4 : Int), .int .i64 (k5 : Int), .string meth, .int .i64 (k6 : Int), .string body] 23))) := ⟨(Below.refl _ _).alloc (Nat.le_refl _) _⟩
  have HBK := Aside0.mk (heap_alloc_new w (.cells #[.int .i64 (k1 : Int), .int .i64 (k2 : Int), .int .i64 (k3 : Int), .int .i64 (k4 : Int), .int .i64 (k5 : Int), .string meth, .int .i64 (k6 : Int), .string body] 23))
  have hw1 : (k1 : Int) % 256 = (k1 : Int) := by omega
  have hx1 : IntKind.u8.wrap (k1 : Int) = (k1 : Int) := by show (k1 : Int) % 256 = _; omega
  have hw2 : (k2 : Int) % 256 = (k2 : Int) := by omega
  have hx2 : IntKind.u8.wrap (k2 : Int) = (k2 : Int) := by show (k2 : Int) % 256 = _; omega
  have hw3 : (k3 : Int) % 256 = (k3 : Int) := by omega
  have hx3 : IntKind.u8.wrap (k3 : Int) = (k3 : Int) := by show (k3 : Int) % 256 = _; omega
  have hw5 : (k5 : Int) % 256 = (k5 : Int) := by omega
  have hx5 : IntKind.u8.wrap (k5 : Int) = (k5 : Int) := by show (k5 : Int) % 256 = _; omega
  have hw6 : (k6 : Int) % 256 = (k6 : Int) := by omega
  have hx6 : IntKind.u8.wrap (k6 : Int) = (k6 : Int) := by show (k6 : Int) % 256 = _; omega
  go_enter Tryd.func10, Tryd.ntmps10
  go_wp2_with fail
  refine (check_at (k1 : Int) (k2 : Int) (k3 : Int) (k4 : Int) (k5 : Int) meth (k6 : Int) body _ (by omega) (by omega) (tabs_below HT.out HB0.out) true hv).mono ?_
  rintro e w2 ⟨rfl, hB2⟩
  have hblk : w2.heap[w.heap.size]? = some (.cells #[.int .i64 (k1 : Int), .int .i64 (k2 : Int), .int .i64 (k3 : Int), .int .i64 (k4 : Int), .int .i64 (k5 : Int), .string meth, .int .i64 (k6 : Int), .string body] 23) := by
    rw [hB2.block _ (blk_lt HBK.out)]; exact HBK.out
  have HBlk := Aside0.mk hblk
  have HB2 := Aside0.mk (HB0.out.trans (hB2.mono HB0.out.size))
  clear hB2 hblk
  have hgs : w.heap.size < w2.heap.size := blk_lt HBlk.out
  have HCV := Aside0.mk (fun W (hW : Below w2.heap.size w2 W) => (show W.cell? ⟨w.heap.size, 0, none⟩ = some (.int .i64 (k1 : Int)) ∧ W.cell? ⟨w.heap.size, 1, none⟩ = some (.int .i64 (k2 : Int)) ∧ W.cell? ⟨w.heap.size, 2, none⟩ = some (.int .i64 (k3 : Int)) ∧ W.cell? ⟨w.heap.size, 3, none⟩ = some (.int .i64 (k4 : Int)) ∧ W.cell? ⟨w.heap.size, 4, none⟩ = some (.int .i64 (k5 : Int)) ∧ W.cell? ⟨w.heap.size, 5, none⟩ = some (.string meth) ∧ W.cell? ⟨w.heap.size, 6, none⟩ = some (.int .i64 (k6 : Int)) ∧ W.cell? ⟨w.heap.size, 7, none⟩ = some (.string body) from ⟨pw_cell_below hW (blk_cell HBlk.out 0), pw_cell_below hW (blk_cell HBlk.out 1), pw_cell_below hW (blk_cell HBlk.out 2), pw_cell_below hW (blk_cell HBlk.out 3), pw_cell_below hW (blk_cell HBlk.out 4), pw_cell_below hW (blk_cell HBlk.out 5), pw_cell_below hW (blk_cell HBlk.out 6), pw_cell_below hW (blk_cell HBlk.out 7)⟩))
  obtain ⟨L, hL⟩ : ∃ L, le4 k4 = L := ⟨_, rfl⟩
  have HL := Aside0.mk hL
  have hl4 : L.length ≤ 4 := by rw [← hL]; exact Nat.le_refl _
  have hl0 : 0 < L.length := by rw [← hL]; exact Nat.zero_lt_succ _
  clear hL
  have HD := Aside0.mk (show Below w2.heap.size w2 w2.drew from (Below.refl _ _).drew)
  have hcb0 := HCV.out _ HD.out
  have HO5 := Aside0.mk (pw_own_below (own_lit w2 w2.heap.size 5 .u8 [(k1 : Int), (k2 : Int), (k3 : Int), (k5 : Int), (k6 : Int)] (Nat.le_refl _) (by simp)) (Below.refl _ _).drew)
  have HDA := Aside0.mk (show Below w2.heap.size w2 (w2.alloc (.cells #[.int .u8 (k1 : Int), .int .u8 (k2 : Int), .int .u8 (k3 : Int), .int .u8 (k5 : Int), .int .u8 (k6 : Int)] 5)).drew from ((Below.refl _ _).alloc (Nat.le_refl _) _).drew)
  go_wp2_with fail
  go_cut [4] (fun v wc => Aside0 (wc.ownsRow w2.heap.size 5 1 v ([(k1 : Int), (k2 : Int), (k3 : Int), (k5 : Int), (k6 : Int)] ++ L).length (nums .u8 ([(k1 : Int), (k2 : Int), (k3 : Int), (k5 : Int), (k6 : Int)] ++ L))) ∧ Aside0 (Below w2.heap.size w2 wc))
  case first =>
    go_region_held_law (fun W => W.cell? ⟨w.heap.size, 0, none⟩ = some (.int .i64 (k1 : Int)) ∧ W.cell? ⟨w.heap.size, 1, none⟩ = some (.int .i64 (k2 : Int)) ∧ W.cell? ⟨w.heap.size, 2, none⟩ = some (.int .i64 (k3 : Int)) ∧ W.cell? ⟨w.heap.size, 3, none⟩ = some (.int .i64 (k4 : Int)) ∧ W.cell? ⟨w.heap.size, 4, none⟩ = some (.int .i64 (k5 : Int)) ∧ W.cell? ⟨w.heap.size, 5, none⟩ = some (.string meth) ∧ W.cell? ⟨w.heap.size, 6, none⟩ = some (.int .i64 (k6 : Int)) ∧ W.cell? ⟨w.heap.size, 7, none⟩ = some (.string body)) (first | exact HCV.out _ (Aside0.out (by assumption)) | (refine HCV.out _ (Below.alloc (Aside0.out (by assumption)) ?_ _); exact Below.size (Aside0.out (by assumption))))
      (first
        | (go_at_call 19; refine (number_rel w2 k4 _ (by assumption) h4 L HL).mono ?_; rintro e wp ⟨A4, c4, rfl, hR4, hO4, hBp, hBpp⟩; have hcb := HCV.out _ hBp.out; try (have hO5 := Aside0.mk (pw_own_below HO5.out hBpp.out)))
        | (refine step_row (w0 := w2) w2.heap.size rfl (.tmp 23) (.tmp 26) 24 5 rfl Tryd.underlying24 info5 (.slice (some ⟨w2.heap.size, 0, none⟩) 5 5) [(k1 : Int), (k2 : Int), (k3 : Int), (k5 : Int), (k6 : Int)] L A4 L.length c4 rfl rfl hl0 (hO5.out) (hR4.out) (hBp.out) (hBp.out).size (by simp; omega) ?_; intro v5 w5 ho5 hb5; have HO6 := Aside0.mk ho5; have HB6 := Aside0.mk hb5; have hcb6 := HCV.out _ hb5; go_simp)
        | (refine step_row (w0 := w2) w2.heap.size rfl (.tmp 23) (.tmp 26) 24 5 rfl Tryd.underlying24 info5 (.slice (some ⟨wp.heap.size, 0, none⟩) 5 5) [(k1 : Int), (k2 : Int), (k3 : Int), (k5 : Int), (k6 : Int)] L A4 L.length c4 rfl rfl hl0 (own_lit wp w2.heap.size 5 .u8 [(k1 : Int), (k2 : Int), (k3 : Int), (k5 : Int), (k6 : Int)] hBp.out.size (by simp)) (hR4.out.below ((Below.refl _ _).alloc (Nat.le_refl _) _)) (hBp.out.alloc hBp.out.size _) (hBp.out.alloc hBp.out.size _).size (by simp; omega) ?_; intro v5 w5 ho5 hb5; have HO6 := Aside0.mk ho5; have HB6 := Aside0.mk hb5; have hcb6 := HCV.out _ hb5; go_simp))
    all_goals
      go_wp2
      go_meet
      case rel => exact ⟨HO6, HB6⟩
  case rest =>
    obtain ⟨wb, hwb⟩ : ∃ wb, wb = wc := ⟨_, rfl⟩
    subst hwb
    obtain ⟨HOc, HBc⟩ := hcut
    obtain ⟨xs, hxs⟩ : ∃ xs, [(k1 : Int), (k2 : Int), (k3 : Int), (k5 : Int), (k6 : Int)] ++ L = xs := ⟨_, rfl⟩
    rw [hxs] at HOc
    have hxl : xs.length ≤ 9 := by rw [← hxs, List.length_append]; simp; omega
    have HXS := Aside0.mk hxs
    clear hxs hcb0 HO5 HDA HD hw1 hw2 hw3 hw5 hw6 hx1 hx2 hx3 hx5 hx6
    obtain ⟨A5, c5, rfl, hR5⟩ := own_reads HOc.out
    have hc5 := own_le HOc.out
    have HR5 := Aside0.mk hR5
    have HCW := Aside0.mk (fun W (hW : Below wb.heap.size wb W) => HCV.out W (HBc.out.trans (hW.mono HBc.out.size)))
    have HCM := Aside0.mk (fun W (hW : Below wb.heap.size wb W) => (HCW.out W hW).2.2.2.2.2.1)
    obtain ⟨ys, hys⟩ : ∃ ys, xs ++ enc 10 meth.size = ys := ⟨_, rfl⟩
    have HYS := Aside0.mk hys
    have hyl : ys.length ≤ 19 := by have := enc_length_le 10 meth.size; rw [← hys, List.length_append]; omega
    have HD2 := Aside0.mk (show Below wb.heap.size wb wb.drew from (Below.refl _ _).drew)
    have hcm0 := HCM.out _ HD2.out
    have hmw1 : IntKind.u64.wrap (meth.size : Int) = (meth.size : Int) := by show (meth.size : Int) % 18446744073709551616 = _; omega
    have hmw2 : (meth.size : Int) % 18446744073709551616 = (meth.size : Int) := by omega
    clear hR5 hys
    go_wp2_with fail
    go_cut [4] (fun v wd => Aside0 (wd.ownsRow wb.heap.size 5 1 v (ys ++ bytesOf meth).length (nums .u8 (ys ++ bytesOf meth))) ∧ Aside0 (Below wb.heap.size wb wd))
    case first =>
      go_region_held_law (fun W => W.cell? ⟨w.heap.size, 5, none⟩ = some (.string meth)) (exact HCM.out _ (Aside0.out (by assumption)))
        (first
          | (go_at_call 20; refine (pvput_rel wb _ (by assumption) _ _ xs HR5 hc5 meth.size (by omega) (by omega) ys HYS).mono ?_; rintro e wp ⟨A6, c6, rfl, hO6, hBp⟩; have hcb := HCM.out _ hBp.out)
          | (refine step_str (w0 := wb) wb.heap.size rfl (.tmp 33) (.tmp 35) 24 9 5 rfl Tryd.underlying24 Tryd.underlying9 info5 (.slice A6 ys.length c6) ys meth rfl rfl hO6.out hBp.out hBp.out.size (by omega) ?_; intro v5 w5 ho5 hb5; have HO6 := Aside0.mk ho5; have HB6 := Aside0.mk hb5; have hcb6 := HCM.out _ hb5; go_simp))
      all_goals
        go_wp2
        go_meet
        case rel => exact ⟨HO6, HB6⟩
    case rest =>
      obtain ⟨HOd, HBd⟩ := hcut
      obtain ⟨ts, hts⟩ : ∃ ts, ys ++ bytesOf meth = ts := ⟨_, rfl⟩
      rw [hts] at HOd
      have htl : ts.length ≤ 99 := by rw [← hts, List.length_append, bytesOf_length]; omega
      have HTS := Aside0.mk hts
      obtain ⟨us, hus⟩ : ∃ us, ts ++ bytesOf body = us := ⟨_, rfl⟩
      have hul : us.length ≤ 4195 := by rw [← hus, List.length_append, bytesOf_length]; omega
      have hfr : frameB ⟨k1, k2, k3, k4, k5, meth, k6, body⟩ = us := by
        rw [← hus, ← HTS.out, ← HYS.out, ← HXS.out, ← HL.out]
        simp only [frameB, headB, Int.toNat_natCast, List.append_assoc]
      have HFR := Aside0.mk hfr
      have HUW := Aside0.mk (show ∀ x ∈ us, 0 ≤ x ∧ x ≤ 255 by rw [← hfr]; exact frame_bytes hv.out)
      have HUS := Aside0.mk hus
      have hcb7 := (HCW.out _ HBd.out).2.2.2.2.2.2.2
      clear hts hus hfr hcm0
      go_wp2_with (at_builtin; go_must (refine print_append_str (w0 := wb) wb.heap.size rfl _ _ 24 9 5 rfl Tryd.underlying24 Tryd.underlying9 info5 _ ts body rfl rfl HOd.out HBd.out HBd.out.size (by omega) ?_; intro v8 w8 ho8 hb8 _; rw [HUS.out] at ho8; have HO8 := Aside0.mk ho8; have HB8 := Aside0.mk hb8; obtain ⟨A8, c8, rfl, hR8⟩ := own_reads ho8; have HR8 := Aside0.mk hR8; clear ho8 hb8 hR8))
      refine (cof_any A8 us.length c8 us _ rfl HR8.out HUW.out).mono ?_
      rintro e w9 ⟨rfl, rfl⟩
      obtain ⟨q, hq⟩ : ∃ q, crcF 0 us = q := ⟨_, rfl⟩
      have hql : q < 4294967296 := by rw [← hq]; exact crcF_lt _ _
      have HQ := Aside0.mk hq
      rw [hq]
      clear hq
      obtain ⟨M, hM⟩ : ∃ M, le4 q = M := ⟨_, rfl⟩
      have HM := Aside0.mk hM
      have hml : M.length = 4 := by rw [← hM]; rfl
      have HML := Aside0.mk hml
      have hml2 : M.length ≤ 4 := by omega
      clear hM hml
      go_wp2_with fail
      refine (number_rel wb q _ HB8 hql M HM).mono ?_
      rintro e w10 ⟨A9, c9, rfl, hR9, hO9, hB9, hB9w⟩
      go_wp2_with (at_builtin; go_must (refine print_append_row (w0 := wb) wb.heap.size rfl _ _ 24 5 .u8 1 rfl Tryd.underlying24 info5 (by omega) _ M us A8 us.length c8 rfl rfl hO9.out (HR8.out.below hB9w.out) hB9.out hB9.out.size (by omega) ?_; intro v11 w11 ho11 hb11 _ _; have HO11 := Aside0.mk ho11; have HB11 := Aside0.mk hb11; clear ho11 hb11))
      go_ret2
      have hzz : M ++ us = zs := by rw [← hz.out, putB, HFR.out, HQ.out, HM.out]
      have h1 := HO11.out
      rw [hzz] at h1
      have hbb := HB2.out.trans (HBc.out.mono HB2.out.size)
      exact ⟨_, rfl, ⟨own_less h1 hbb.size⟩, ⟨hbb.trans (HB11.out.mono hbb.size)⟩⟩
end Go.Proofs.YtabcaeckoghmpaaDoor
