/- The reference's Put. -/
import Derived.Test.YtabcaeckoghmpaaDoorPkRCheck
import Derived.Test.YtabcaeckoghmpaaDoorPkForged
import Derived.Test.YtabcaeckoghmpaaDoorPRefVint
namespace Go.Proofs.YtabcaeckoghmpaaDoor
set_option linter.unusedVariables false
set_option linter.unusedSimpArgs false
open Go.RowKit Go.Proofs.YtabcaeckoghmpaaDoorW.PrintWords

theorem rput_no (kind fr to_ id ver : Int) (meth : ByteArray) (err : Int) (body : ByteArray) (w : World) (hm : meth.size ≤ 2097152) (hbz : body.size ≤ 4611686018427387904) (hv : Aside0 (pkOk ⟨kind, fr, to_, id, ver, meth, err, body⟩ = false)) :
    Calls Tryd.prog 11 #[.agg #[.int .i64 kind, .int .i64 fr, .int .i64 to_, .int .i64 id, .int .i64 ver, .string meth, .int .i64 err, .string body]] w fun e w' => e = .returned (.slice none 0 0) ∧ Below w.heap.size w w' := by
  have HB0 : Aside0 (Below w.heap.size w (w.alloc (.cells #[.int .i64 kind, .int .i64 fr, .int .i64 to_, .int .i64 id, .int .i64 ver, .string meth, .int .i64 err, .string body] 23))) := ⟨(Below.refl _ _).alloc (Nat.le_refl _) _⟩
  go_enter Tryd.func11, Tryd.ntmps11
  go_wp2_with fail
  refine (rcheck_at kind fr to_ id ver meth err body _ hm hbz false hv).mono ?_
  rintro e w2 ⟨rfl, hB2⟩
  have HB2 := Aside0.mk (HB0.out.trans (hB2.mono HB0.out.size))
  clear hB2
  go_wp2
  go_ret
  exact ⟨rfl, HB2.out⟩
set_option maxRecDepth 100000 in
set_option maxHeartbeats 2000000 in
theorem rput_yes (k1 k2 k3 k4 k5 k6 : Nat) (meth body : ByteArray) (w : World) (h1 : k1 < 256) (h2 : k2 < 256) (h3 : k3 < 256) (h4 : k4 < 4294967296) (h5 : k5 < 256) (h6 : k6 < 256) (hm : meth.size ≤ 80) (hbz : body.size ≤ 4096)
    (hv : Aside0 (pkOk ⟨k1, k2, k3, k4, k5, meth, k6, body⟩ = true)) (zs : List Int) (hz : Aside0 (putB ⟨k1, k2, k3, k4, k5, meth, k6, body⟩ = zs)) :
    Calls Tryd.prog 11 #[.agg #[.int .i64 (k1 : Int), .int .i64 (k2 : Int), .int .i64 (k3 : Int), .int .i64 (k4 : Int), .int .i64 (k5 : Int), .string meth, .int .i64 (k6 : Int), .string body]] w
      fun e w' => ∃ v', e = .returned v' ∧ Aside0 (w'.ownsRow w.heap.size 5 1 v' zs.length (nums .u8 zs)) ∧ Aside0 (Below w.heap.size w w') := by
  have HB0 : Aside0 (Below w.heap.size w (w.alloc (.cells #[.int .i64 (k1 : Int), .int .i64 (k2 : Int), .int .i64 (k3 : Int), .int .i64 (k4 : Int), .int .i64 (k5 : Int), .string meth, .int .i64 (k6 : Int), .string body] 23))) := ⟨(Below.refl _ _).alloc (Nat.le_refl _) _⟩
  have HBK := Aside0.mk (heap_alloc_new w (.cells #[.int .i64 (k1 : Int), .int .i64 (k2 : Int), .int .i64 (k3 : Int), .int .i64 (k4 : Int), .int .i64 (k5 : Int), .string meth, .int .i64 (k6 : Int), .string body] 23))
  have hw1 : (k1 : Int) % 256 = (k1 : Int) := by omega
  have hx1 : IntKind.u8.wrap (k1 : Int) = (k1 : Int) := by show (k1 : Int) % 256 = _; omega
  have hw2 : (k2 : Int) % 256 = (k2 : Int) := by omega
  have hx2 : IntKind.u8.wrap (k2 : Int) = (k2 : Int) := by show (k2 : Int) % 256 = _; omega
  have hw3 : (k3 : Int) % 256 = (k3 : Int) := by omega
  have hx3 : IntKind.u8.wrap (k3 : Int) = (k3 : Int) := by show (k3 : Int) % 256 = _; omega
  have hw4 : (k4 : Int) % 4294967296 = (k4 : Int) := by omega
  have hx4 : IntKind.u32.wrap (k4 : Int) = (k4 : Int) := by show (k4 : Int) % 4294967296 = _; omega
  have hw5 : (k5 : Int) % 256 = (k5 : Int) := by omega
  have hx5 : IntKind.u8.wrap (k5 : Int) = (k5 : Int) := by show (k5 : Int) % 256 = _; omega
  have hw6 : (k6 : Int) % 256 = (k6 : Int) := by omega
  have hx6 : IntKind.u8.wrap (k6 : Int) = (k6 : Int) := by show (k6 : Int) % 256 = _; omega
  go_enter Tryd.func11, Tryd.ntmps11
  go_wp2_with fail
  refine (rcheck_at (k1 : Int) (k2 : Int) (k3 : Int) (k4 : Int) (k5 : Int) meth (k6 : Int) body _ (by omega) (by omega) true hv).mono ?_
  rintro e w2 ⟨rfl, hB2⟩
  have hblk : w2.heap[w.heap.size]? = some (.cells #[.int .i64 (k1 : Int), .int .i64 (k2 : Int), .int .i64 (k3 : Int), .int .i64 (k4 : Int), .int .i64 (k5 : Int), .string meth, .int .i64 (k6 : Int), .string body] 23) := by
    rw [hB2.block _ (blk_lt HBK.out)]; exact HBK.out
  have HBlk := Aside0.mk hblk
  have HB2 := Aside0.mk (HB0.out.trans (hB2.mono HB0.out.size))
  clear hB2 hblk
  have hgs : w.heap.size < w2.heap.size := blk_lt HBlk.out
  have HCV := Aside0.mk (fun W (hW : Below w2.heap.size w2 W) => (show W.cell? ⟨w.heap.size, 0, none⟩ = some (.int .i64 (k1 : Int)) ∧ W.cell? ⟨w.heap.size, 1, none⟩ = some (.int .i64 (k2 : Int)) ∧ W.cell? ⟨w.heap.size, 2, none⟩ = some (.int .i64 (k3 : Int)) ∧ W.cell? ⟨w.heap.size, 3, none⟩ = some (.int .i64 (k4 : Int)) ∧ W.cell? ⟨w.heap.size, 4, none⟩ = some (.int .i64 (k5 : Int)) ∧ W.cell? ⟨w.heap.size, 5, none⟩ = some (.string meth) ∧ W.cell? ⟨w.heap.size, 6, none⟩ = some (.int .i64 (k6 : Int)) ∧ W.cell? ⟨w.heap.size, 7, none⟩ = some (.string body) from ⟨pw_cell_below hW (blk_cell HBlk.out 0), pw_cell_below hW (blk_cell HBlk.out 1), pw_cell_below hW (blk_cell HBlk.out 2), pw_cell_below hW (blk_cell HBlk.out 3), pw_cell_below hW (blk_cell HBlk.out 4), pw_cell_below hW (blk_cell HBlk.out 5), pw_cell_below hW (blk_cell HBlk.out 6), pw_cell_below hW (blk_cell HBlk.out 7)⟩))
  have hc2 := HCV.out w2 (Below.refl _ _)
  obtain ⟨L, hL⟩ : ∃ L, le4 k4 = L := ⟨_, rfl⟩
  have HL := Aside0.mk hL
  have hl4 : L.length = 4 := by rw [← hL]; rfl
  clear hL
  have HD1 := Aside0.mk (show Below w2.heap.size w2 (w2.alloc (.cells #[.int .u8 (k1 : Int), .int .u8 (k2 : Int), .int .u8 (k3 : Int), .int .u8 (k5 : Int), .int .u8 (k6 : Int)] 5)) from (Below.refl _ _).alloc (Nat.le_refl _) _)
  have hc3 := HCV.out _ HD1.out
  have HO1 := Aside0.mk (own_lit w2 w2.heap.size 5 .u8 [(k1 : Int), (k2 : Int), (k3 : Int), (k5 : Int), (k6 : Int)] (Nat.le_refl _) (by simp))
  go_wp2_with fail
  refine (low_any k4 _ h4 L HL).mono ?_
  rintro e w4 ⟨v4, rfl, ho4, hb4⟩
  obtain ⟨A4, c4, rfl, hr4⟩ := own_reads ho4.out
  have HR4 := Aside0.mk hr4
  have HO1' := Aside0.mk (pw_own_below HO1.out hb4.out)
  have HD4 := Aside0.mk (HD1.out.trans (hb4.out.mono HD1.out.size))
  have hc4 := HCV.out _ HD4.out
  obtain ⟨xs, hxs⟩ : ∃ xs, [(k1 : Int), (k2 : Int), (k3 : Int), (k5 : Int), (k6 : Int)] ++ L = xs := ⟨_, rfl⟩
  have hxl : xs.length = 9 := by rw [← hxs, List.length_append, hl4]; rfl
  have HXS := Aside0.mk hxs
  have HL4 := Aside0.mk hl4
  have hl4' : L.length ≤ 4 := by omega
  have hmw1 : IntKind.u64.wrap (meth.size : Int) = (meth.size : Int) := by show (meth.size : Int) % 18446744073709551616 = _; omega
  have hmw2 : (meth.size : Int) % 18446744073709551616 = (meth.size : Int) := by omega
  clear hr4 ho4 hb4 hxs hl4 hc2 hc3
  go_wp2_with (refine gate_ (.call { callee := .builtin .append, args := #[.tmp 23, .tmp 27], argTypes := #[24, 24] }) rfl ?_; go_must (refine print_append_row (w0 := w2) w2.heap.size rfl (.tmp 23) (.tmp 27) 24 5 .u8 1 rfl Tryd.underlying24 info5 (by omega) (.slice (some ⟨w2.heap.size, 0, none⟩) 5 5) [(k1 : Int), (k2 : Int), (k3 : Int), (k5 : Int), (k6 : Int)] L A4 4 c4 rfl rfl (HO1'.out) (HR4.out) (HD4.out) (HD4.out).size (by simp only [List.length_cons, List.length_nil]; omega) ?_); rintro v5 w5 ho5 hb5 _ _; rw [HXS.out] at ho5; have HO5 := Aside0.mk ho5; have HD5 := Aside0.mk hb5; have hc5 := HCV.out _ hb5; clear ho5 hb5)
  refine (rput_any (meth.size : Int) w5 (by omega) (by omega)).mono ?_
  rintro e w6 ⟨v6, zs6, rfl, hz6, ho6, hb6⟩
  rw [Int.toNat_natCast] at hz6
  obtain ⟨A6, c6, rfl, hr6⟩ := own_reads ho6.out
  have HR6 := Aside0.mk hr6
  have HO5' := Aside0.mk (pw_own_below HO5.out hb6.out)
  have HD6 := Aside0.mk (HD5.out.trans (hb6.out.mono HD5.out.size))
  have hc6 := HCV.out _ HD6.out
  have hz6l : zs6.length ≤ 10 := by rw [hz6.out]; exact enc_length_le 10 _
  have HZ6 := hz6
  obtain ⟨ys, hys⟩ : ∃ ys, xs ++ zs6 = ys := ⟨_, rfl⟩
  have hyl : ys.length ≤ 19 := by rw [← hys, List.length_append]; omega
  have HYS := Aside0.mk hys
  obtain ⟨ts, hts⟩ : ∃ ts, ys ++ bytesOf meth = ts := ⟨_, rfl⟩
  have htl : ts.length ≤ 99 := by rw [← hts, List.length_append, bytesOf_length]; omega
  have HTS := Aside0.mk hts
  obtain ⟨us, hus⟩ : ∃ us, ts ++ bytesOf body = us := ⟨_, rfl⟩
  have hul : us.length ≤ 4195 := by rw [← hus, List.length_append, bytesOf_length]; omega
  have HUS := Aside0.mk hus
  clear hr6 ho6 hb6 hz6 hys hts hus hc4
  go_wp2_with (first | (refine gate_ (.call { callee := .builtin .append, args := #[.tmp 29, .tmp 34], argTypes := #[24, 24] }) rfl ?_; go_must (refine print_append_row (w0 := w2) w2.heap.size rfl (.tmp 29) (.tmp 34) 24 5 .u8 1 rfl Tryd.underlying24 info5 (by omega) (v5) xs zs6 A6 zs6.length c6 rfl rfl (HO5'.out) (HR6.out) (HD6.out) (HD6.out).size (by omega) ?_); rintro v7 w7 ho7 hb7 _ _; rw [HYS.out] at ho7; have HO7 := Aside0.mk ho7; have HD7 := Aside0.mk hb7; have hc7 := HCV.out _ hb7; clear ho7 hb7) | (refine gate_ (.call { callee := .builtin .append, args := #[.tmp 36, .tmp 38], argTypes := #[24, 9] }) rfl ?_; go_must (refine print_append_str (w0 := w2) w2.heap.size rfl (.tmp 36) (.tmp 38) 24 9 5 rfl Tryd.underlying24 Tryd.underlying9 info5 v7 ys meth rfl rfl HO7.out HD7.out HD7.out.size (by omega) ?_); intro v8 w8 ho8 hb8 _; rw [HTS.out] at ho8; have HO8 := Aside0.mk ho8; have HD8 := Aside0.mk hb8; have hc8 := HCV.out _ hb8; clear ho8 hb8) | (refine gate_ (.call { callee := .builtin .append, args := #[.tmp 40, .tmp 42], argTypes := #[24, 9] }) rfl ?_; go_must (refine print_append_str (w0 := w2) w2.heap.size rfl (.tmp 40) (.tmp 42) 24 9 5 rfl Tryd.underlying24 Tryd.underlying9 info5 v8 ts body rfl rfl HO8.out HD8.out HD8.out.size (by omega) ?_); intro v9 w9 ho9 hb9 _; rw [HUS.out] at ho9; have HO9 := Aside0.mk ho9; have HD9 := Aside0.mk hb9; have hc9 := HCV.out _ hb9; clear ho9 hb9; obtain ⟨A9, c9, rfl, hr9⟩ := own_reads HO9.out; have HR9 := Aside0.mk hr9; clear hr9) | fail)
  have hfr : frameB ⟨k1, k2, k3, k4, k5, meth, k6, body⟩ = us := by
    rw [← HUS.out, ← HTS.out, ← HYS.out, ← HXS.out, ← HL.out, HZ6.out]
    simp only [frameB, headB, Int.toNat_natCast, List.append_assoc]
  have HFR := Aside0.mk hfr
  have HUW := Aside0.mk (show ∀ x ∈ us, 0 ≤ x ∧ x ≤ 255 by rw [← hfr]; exact frame_bytes hv.out)
  clear hfr
  refine (rmore_new A9 us.length c9 0 us w9 rfl HR9.out (by decide) (by decide) HUW.out).mono ?_
  rintro e w10 ⟨r, rfl, hr, rfl⟩
  obtain ⟨q, hq⟩ : ∃ q, crcF 0 us = q := ⟨_, rfl⟩
  have hql : q < 4294967296 := by rw [← hq]; exact crcF_lt _ _
  have hrq : r = (q : Int) := by rw [hr.out, ← hq]; rfl
  subst hrq
  have HQ := Aside0.mk hq
  clear hq hr
  obtain ⟨M, hM⟩ : ∃ M, le4 q = M := ⟨_, rfl⟩
  have HM := Aside0.mk hM
  have hml : M.length = 4 := by rw [← hM]; rfl
  have HML := Aside0.mk hml
  have hml' : M.length ≤ 4 := by omega
  clear hM hml
  go_wp2_with fail
  refine (low_any q w9 hql M HM).mono ?_
  rintro e w11 ⟨v11, rfl, ho11, hb11⟩
  have HO11 : Aside0 (w11.ownsRow w2.heap.size 5 1 v11 M.length (nums .u8 M)) := ⟨by rw [HML.out]; exact own_less ho11.out HD9.out.size⟩
  have HR11 := Aside0.mk (HR9.out.below hb11.out)
  have HD11 := Aside0.mk (HD9.out.trans (hb11.out.mono HD9.out.size))
  clear ho11 hb11
  go_wp2_with (refine gate_ (.call { callee := .builtin .append, args := #[.tmp 46, .tmp 47], argTypes := #[24, 24] }) rfl ?_; go_must (refine print_append_row (w0 := w2) w2.heap.size rfl (.tmp 46) (.tmp 47) 24 5 .u8 1 rfl Tryd.underlying24 info5 (by omega) (v11) M us A9 us.length c9 rfl rfl (HO11.out) (HR11.out) (HD11.out) (HD11.out).size (by omega) ?_); rintro v12 w12 ho12 hb12 _ _; have HO12 := Aside0.mk ho12; have HD12 := Aside0.mk hb12; clear ho12 hb12)
  go_ret
  have hzz : M ++ us = zs := by rw [← hz.out, putB, HFR.out, HQ.out, HM.out]
  have h1 := HO12.out
  rw [hzz] at h1
  exact ⟨_, rfl, ⟨own_less h1 HB2.out.size⟩, ⟨HB2.out.trans (HD12.out.mono HB2.out.size)⟩⟩
/-- The reference's Put, of any packet. -/
theorem rput_pk (p : Pk) (w : World) (hm : p.meth.size ≤ 2097152) (hbz : p.body.size ≤ 4611686018427387904) (v : Bool) (hv : Aside0 (pkOk p = v)) (zs : List Int) (hz : Aside0 ((if v then putB p else []) = zs)) :
    Calls Tryd.prog 11 #[pkV p] w
      fun e w' => ∃ v', e = .returned v' ∧ Aside0 (w'.ownsRow w.heap.size 5 1 v' zs.length (nums .u8 zs)) ∧ Aside0 (Below w.heap.size w w') := by
  cases v with
  | false =>
    have e := hz.out
    simp only [Bool.false_eq_true, if_false] at e
    subst e
    obtain ⟨kind, fr, to_, id, ver, meth, err, body⟩ := p
    refine (rput_no kind fr to_ id ver meth err body w hm hbz hv).mono ?_
    rintro e w1 ⟨rfl, hB⟩
    exact ⟨_, rfl, ⟨World.ownsRow_nil _ _ _ _⟩, ⟨hB⟩⟩
  | true =>
    have e := hz.out
    simp only [if_true] at e
    obtain ⟨h1, h2, h3, h4, h5, h6, h7, h8⟩ := pkOk_in hv.out
    have hms2 := (pk_sizes hv.out).1
    obtain ⟨kind, fr, to_, id, ver, meth, err, body⟩ := p
    simp only at h1 h2 h3 h4 h5 h6 h7 h8 hms2
    obtain ⟨k1, rfl⟩ := Int.eq_ofNat_of_zero_le (show 0 ≤ kind by omega)
    obtain ⟨k2, rfl⟩ := Int.eq_ofNat_of_zero_le (show 0 ≤ fr by omega)
    obtain ⟨k3, rfl⟩ := Int.eq_ofNat_of_zero_le (show 0 ≤ to_ by omega)
    obtain ⟨k4, rfl⟩ := Int.eq_ofNat_of_zero_le (show 0 ≤ id by omega)
    obtain ⟨k5, rfl⟩ := Int.eq_ofNat_of_zero_le (show 0 ≤ ver by omega)
    obtain ⟨k6, rfl⟩ := Int.eq_ofNat_of_zero_le (show 0 ≤ err by omega)
    exact rput_yes k1 k2 k3 k4 k5 k6 meth body w (by omega) (by omega) (by omega) (by omega) (by omega) (by omega) hms2 h8 hv zs ⟨e⟩
end Go.Proofs.YtabcaeckoghmpaaDoor
