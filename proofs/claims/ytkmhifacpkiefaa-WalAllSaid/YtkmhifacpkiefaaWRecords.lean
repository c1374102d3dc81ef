/- wal.Records: what it tells. -/
import Derived.Test.YtkmhifacpkiefaaWPure
import Derived.Test.YtkmhifacpkiefaaRowsOwn
import Derived.Deep.RegionHeld
import Derived.IntWalk
import Derived.Deep.DeepCutAuto
import Derived.Deep.CutBlock
namespace Go.Proofs.Ytkmhifacpkiefaa
set_option linter.unusedVariables false
set_option linter.unusedSimpArgs false
open Go.RowKit Go.Proofs.YtkmhifacpkiefaaW.PrintWords

set_option maxRecDepth 100000 in
set_option maxHeartbeats 2000000 in
theorem records_any (A : Option Addr) (c : Nat) (bs : List Int) (w : World) (hr : ReadsInt w .u8 A bs.length bs) (hc : bs.length ≤ c) (hl : bs.length ≤ 1000000) (hw : ∀ x ∈ bs, 0 ≤ x ∧ x ≤ 255) :
    Calls Try.prog 13 #[.slice A bs.length c] w fun e w' => ∃ v : Value, e = .returned (.tuple #[v, .int .i64 ((recsF (bs.length + 1) bs 0).2 : Nat)]) ∧ RowsOwn w' w.heap.size v (recsF (bs.length + 1) bs 0).1 ∧ Below w.heap.size w w' := by
  have HR := Aside0.mk hr
  have HW := Aside0.mk hw
  clear hr hw
  obtain ⟨i0, hi, _, hsz, _⟩ := info_parts info5
  have HI := Aside0.mk hi
  have HS := Aside0.mk hsz
  clear hi hsz
  go_enter Try.func13, Try.ntmps13
  go_wp2
  go_step3
  go_wp2
  go_step3
  go_wp2_with fail
  go_loopw [4, 5] (fun v u wr => ∃ (p k : Nat) (ts : List (List Int)), u = .int .i64 (p : Int) ∧ p ≤ bs.length ∧ Aside0 (ts.length * 6 ≤ p) ∧ Aside0 (bs.length < p + k) ∧ Aside0 (ts ++ (recsF k bs p).1 = (recsF (bs.length + 1) bs 0).1 ∧ (recsF k bs p).2 = (recsF (bs.length + 1) bs 0).2) ∧ Aside0 (RowsOwn wr w.heap.size v ts) ∧ Aside0 (Below w.heap.size w wr)) (fun _ u _ => bs.length - (intOf u).toNat)
  case atStart => exact ⟨0, bs.length + 1, [], rfl, by omega, ⟨by simp⟩, ⟨by omega⟩, ⟨by simp⟩, ⟨RowsOwn.nil _ _⟩, ⟨Below.refl _ _⟩⟩
  case round =>
    obtain ⟨p, k, ts, rfl, hp, HT, HK, HG, HO, HB⟩ := hrel
    have finish : next1 bs p = none → (recsF (bs.length + 1) bs 0).1 = ts ∧ (recsF (bs.length + 1) bs 0).2 = p := by
      intro h
      have h1 := HG.out
      obtain ⟨k', rfl⟩ : ∃ k', k = k' + 1 := ⟨k - 1, by have := HK.out; omega⟩
      rw [recsF_stop _ _ _ h] at h1
      simp only [List.append_nil] at h1
      exact ⟨h1.1.symm, h1.2.symm⟩
    have FIN := Aside0.mk finish
    clear finish
    have HR1 := Aside0.mk (HR.out.below HB.out)
    by_cases hlt : p < bs.length
    · obtain ⟨n, b, e0, hg⟩ : ∃ n b e0, getF bs p = (n, b, e0) := ⟨_, _, _, rfl⟩
      have HG1 := Aside0.mk hg
      clear hg
      go_wp2_with fail
      refine (vget_new A _ c bs p _ rfl HR1.out hc HW.out).mono ?_
      rintro e w2 ⟨r1, r2, r3, rfl, hg2, rfl⟩
      have hg3 := hg2.out
      rw [HG1.out] at hg3
      simp only [Prod.mk.injEq] at hg3
      obtain ⟨rfl, rfl, rfl⟩ := hg3
      have NO : Aside0 (e0 ≠ 0 ∨ n < 1 ∨ 16384 < n ∨ (bs.length : Int) - b - 4 < n → next1 bs p = none) := ⟨fun h => next1_none bs p (by rw [HG1.out]; exact h)⟩
      by_cases h1 : e0 = 0
      · have h1' : (e0 != 0) = false := by rw [bne_eq_false_iff_eq]; exact h1
        have H1 := Aside0.mk h1
        clear h1
        by_cases h2 : n < 1
        · go_wp2
          rw [Exit.noGoto_ret]
          go_ret2
          have h := FIN.out (NO.out (.inr (.inl h2)))
          rw [h.1, h.2]
          exact ⟨_, rfl, HO.out, HB.out⟩
        · by_cases h3 : 16384 < n
          · go_wp2
            rw [Exit.noGoto_ret]
            go_ret2
            have h := FIN.out (NO.out (.inr (.inr (.inl h3))))
            rw [h.1, h.2]
            exact ⟨_, rfl, HO.out, HB.out⟩
          · have hb := getF_ok bs p n b (by rw [HG1.out, H1.out])
            obtain ⟨hb0, hb1, hb2⟩ := hb
            have hwr : wrap64 n = n := by unfold wrap64; omega
            by_cases h4 : (bs.length : Int) - b - 4 < n
            · go_wp2
              rw [Exit.noGoto_ret]
              go_ret2
              have h := FIN.out (NO.out (.inr (.inr (.inr h4))))
              rw [h.1, h.2]
              exact ⟨_, rfl, HO.out, HB.out⟩
            · obtain ⟨n, rfl⟩ := Int.eq_ofNat_of_zero_le (show 0 ≤ n by omega)
              obtain ⟨b, rfl⟩ := Int.eq_ofNat_of_zero_le (show 0 ≤ b by omega)
              obtain ⟨A1, hcutH, hrH⟩ := mid_int (P := Try.prog) (k := .u8) 25 5 Try.underlying25 HI.out HS.out A c bs p b (by omega) (by omega) hc
              obtain ⟨A2, hcutS, hrS⟩ := mid_int (P := Try.prog) (k := .u8) 25 5 Try.underlying25 HI.out HS.out A c bs b (b + 4) (by omega) (by omega) hc
              have hcutH' := fun W => hcutH W (p : Int) (b : Int) rfl rfl
              have hcutS' := fun W => hcutS W (b : Int) ((b : Int) + 4) rfl (by omega)
              rw [show b + 4 - b = 4 from by omega] at hcutS' hrS
              have HH := Aside0.mk (hrH _ HR1.out)
              have HS4 := Aside0.mk (hrS _ HR1.out)
              obtain ⟨A3, hA3⟩ : ∃ A3, Option.map (fun x : Addr => x.add (b + 4)) A = A3 := ⟨_, rfl⟩
              have HT2 := Aside0.mk (show ReadsInt wr .u8 A3 n ((bs.drop (b + 4)).take n) by
                have h := (HR1.out.drop_ (c := c) (b + 4) (by omega) hc).take_ n (by omega)
                rw [if_neg (by omega)] at h
                rw [← hA3]
                exact h)
              have HA3 := Aside0.mk hA3
              clear hcutH hcutS hrH hrS hA3
              obtain ⟨hd, hhd⟩ : ∃ hd, (bs.drop p).take (b - p) = hd := ⟨_, rfl⟩
              obtain ⟨tx, htx⟩ : ∃ tx, (bs.drop (b + 4)).take n = tx := ⟨_, rfl⟩
              obtain ⟨sm, hsm⟩ : ∃ sm, (bs.drop b).take 4 = sm := ⟨_, rfl⟩
              rw [hhd] at HH
              rw [htx] at HT2
              rw [hsm] at HS4
              have hhl : hd.length = b - p := by rw [← hhd]; simp; omega
              have htl : tx.length = n := by rw [← htx]; simp; omega
              have HHL := Aside0.mk hhl
              have HTL := Aside0.mk htl
              have HHW := Aside0.mk (show ∀ x ∈ hd, 0 ≤ x ∧ x ≤ 255 from fun x hx => HW.out x (List.mem_of_mem_drop (List.mem_of_mem_take (hhd ▸ hx))))
              have HTW := Aside0.mk (show ∀ x ∈ tx, 0 ≤ x ∧ x ≤ 255 from fun x hx => HW.out x (List.mem_of_mem_drop (List.mem_of_mem_take (htx ▸ hx))))
              have HSW := Aside0.mk (show ∀ x ∈ sm, 0 ≤ x ∧ x ≤ 255 from fun x hx => HW.out x (List.mem_of_mem_drop (List.mem_of_mem_take (hsm ▸ hx))))
              have HN1 : Aside0 (next1 bs p = if low4 (crcF (crcF 0 hd) tx) = sm then some (tx, b + 4 + n) else none) := ⟨by
                rw [next1, HG1.out]
                simp only [Int.toNat_natCast]
                rw [if_neg (by have := H1.out; omega), hhd, htx, hsm]⟩
              obtain ⟨s1, hs1⟩ : ∃ s1, strOfNums (low4 (crcF (crcF 0 hd) tx)) = s1 := ⟨_, rfl⟩
              obtain ⟨s2, hs2⟩ : ∃ s2, strOfNums sm = s2 := ⟨_, rfl⟩
              obtain ⟨D, hD⟩ : ∃ D, (!decide (low4 (crcF (crcF 0 hd) tx) = sm)) = D := ⟨_, rfl⟩
              have hcmp : (s1.toList == s2.toList) = !D := by
                rw [← hD, Bool.not_not]
                by_cases h : low4 (crcF (crcF 0 hd) tx) = sm
                · rw [← hs1, ← hs2, h]
                  simp
                · rw [decide_eq_false h, beq_eq_false_iff_ne]
                  intro h5
                  refine h (strOfNums_inj _ _ (low4_bytes _) HSW.out ?_)
                  rw [hs1, hs2]
                  exact toList_inj h5
              have hcmp2 : (s1.toList != s2.toList) = D := by rw [bne, hcmp, Bool.not_not]
              have HS1 := Aside0.mk hs1
              have HS2 := Aside0.mk hs2
              have HD := Aside0.mk hD
              clear hs1 hs2 hD hhd htx hsm hhl htl
              go_wp2_with fail
              rw [HA3.out, show b + 4 + n - (b + 4) = n from by omega]
              have LL := Aside0.mk (show ∀ s l, 0 ≤ ((crcF s l : Nat) : Int) ∧ ((crcF s l : Nat) : Int) < 4294967296 from fun s l => by have := crcF_lt s l; omega)
              have HCV := Aside0.mk (show ∀ W, Below wr.heap.size wr W → (convert 25 9 (.slice A2 4 (c - b))).run Try.prog W = .ok (.string s2) W from fun W hW => by rw [← HS2.out]; exact str_reads (HS4.out.below hW))
              have HB0 := Aside0.mk (show Below wr.heap.size wr wr.drew from (Below.refl _ _).drew)
              have hwb1 : IntKind.i64.wrap ((b : Int) + 4) = (b : Int) + 4 := IntWalk.i64_in _ (by omega)
              go_cut [70] (fun v wc => v = .bool D ∧ Aside0 (Below wr.heap.size wr wc))
              case first =>
                go_region_held (fun W => (convert 25 9 (.slice A2 4 (c - b))).run Try.prog W = .ok (.string s2) W) (exact HCV.out _ (Aside0.out (by assumption)))
                  (first
                    | (go_at_call 22; refine (cof_new A1 _ _ hd _ HHL.out.symm (HH.out.below (Aside0.out (by assumption))) HHW.out).mono ?_; rintro e w5 ⟨q1, rfl, hq1, rfl⟩)
                    | (go_at_call 21; refine (cmore_new A3 n _ q1 tx _ HTL.out.symm (HT2.out.below (Aside0.out (by assumption))) (by rw [hq1.out]; exact (LL.out _ _).1) (by rw [hq1.out]; exact (LL.out _ _).2) HTW.out).mono ?_; rintro e w5 ⟨q2, rfl, hq2, rfl⟩)
                    | (go_at_call 20; refine (sums_new q2 _ (by rw [hq2.out]; exact (LL.out _ _).1) (by rw [hq2.out]; exact (LL.out _ _).2)).mono ?_; rintro e w6 ⟨v6, rfl, ho6, hB6⟩; have hcv6 := str_own ho6.out; rw [hq2.out, hq1.out, Int.toNat_natCast, Int.toNat_natCast, HS1.out] at hcv6; have HB6 := Aside0.mk (HB0.out.trans (hB6.out.mono HB0.out.size))))
                all_goals
                  go_wp2
                  go_meet
                  case rel => exact ⟨rfl, by assumption⟩
              case rest =>
                obtain ⟨rfl, HBc⟩ := hcut
                clear hwb1
                have HOc := Aside0.mk (HO.out.below HBc.out)
                have HBd := Aside0.mk (HB.out.trans (HBc.out.mono HB.out.size))
                have htl24 := Aside0.mk (show (ts.length + 1) * 24 ≤ 140737488355328 by have := HT.out; omega)
                cases D with
                | true =>
                  go_wp2
                  rw [Exit.noGoto_ret]
                  go_ret2
                  have hne : ¬ low4 (crcF (crcF 0 hd) tx) = sm := by have := HD.out; simpa using this
                  have h := FIN.out (by rw [HN1.out, if_neg hne])
                  rw [h.1, h.2]
                  exact ⟨_, rfl, HOc.out, HBd.out⟩
                | false =>
                  have heq : low4 (crcF (crcF 0 hd) tx) = sm := by have := HD.out; simpa using this
                  have HNX := Aside0.mk (show next1 bs p = some (tx, b + 4 + n) by rw [HN1.out, if_pos heq])
                  clear heq hcmp hcmp2
                  go_wp2_with (first
                    | (at_builtin; (refine print_append_row (w0 := w) w.heap.size rfl (.const (.slice none 0 0)) (.tmp 72) 25 5 .u8 1 rfl Try.underlying25 info5 (by omega) (.slice none 0 0) [] tx A3 n _ rfl rfl (own_nil _ _ _ _) (by exact HT2.out.below HBc.out) HBd.out HBd.out.size (by simp; omega) ?_); rintro v7 w7 ho7 hb7 hg7 _; simp only [List.nil_append] at ho7; obtain ⟨A7, c7, rfl⟩ := own_slice ho7; have HB7 := Aside0.mk hb7; have HO7 := Aside0.mk ho7; have HOO := Aside0.mk (HOc.out.below ((Below.refl _ _).grown hg7 (Nat.le_refl _) (by intro k hk; cases hk))); clear ho7 hb7 hg7)
                    | (at_builtin; go_must (refine append_rows (w0 := w) w.heap.size rfl (.tmp 71) (.tmp 74) 22 rfl Try.underlying22 infoRow _ ts _ tx rfl rfl (by exact HOO.out) (by exact HO7.out) (by exact HB7.out) (by exact HB7.out.size) htl24.out ?_); rintro v8 w8 ho8 hb8; have HO8 := Aside0.mk ho8; have HB8 := Aside0.mk hb8; clear ho8 hb8)
                    | fail)
                  go_roundw
                  case rel =>
                    have hgt := next1_gt bs p tx _ HNX.out
                    obtain ⟨k', rfl⟩ : ∃ k', k = k' + 1 := ⟨k - 1, by have := HK.out; omega⟩
                    refine ⟨b + 4 + n, k', ts ++ [tx], by go_num, by omega, ⟨?_⟩, ⟨by have := HK.out; omega⟩, ⟨?_⟩, HO8, HB8⟩
                    · have := HT.out
                      simp only [List.length_append, List.length_singleton]
                      omega
                    · have h := HG.out
                      rw [recsF_go _ _ _ _ _ HNX.out] at h
                      simpa using h
                  case measure => simp [intOf]; omega
      · have h1' : (e0 != 0) = true := by rw [bne_iff_ne]; exact h1
        go_wp2
        rw [Exit.noGoto_ret]
        go_ret2
        have h := FIN.out (NO.out (.inl h1))
        rw [h.1, h.2]
        exact ⟨_, rfl, HO.out, HB.out⟩
    · go_wp2
      rw [Exit.noGoto_ret]
      go_ret2
      have h := FIN.out (next1_end bs p (by omega))
      rw [h.1, h.2]
      exact ⟨_, rfl, HO.out, HB.out⟩
end Go.Proofs.Ytkmhifacpkiefaa
