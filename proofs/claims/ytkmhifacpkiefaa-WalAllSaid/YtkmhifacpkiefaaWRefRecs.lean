/- The reference's records. -/
import Derived.Test.YtkmhifacpkiefaaWRefPut
import Derived.Test.YtkmhifacpkiefaaRowsLent
namespace Go.Proofs.Ytkmhifacpkiefaa
set_option linter.unusedVariables false
set_option linter.unusedSimpArgs false
open Go.RowKit Go.Proofs.YtkmhifacpkiefaaW.PrintWords

set_option maxRecDepth 100000 in
set_option maxHeartbeats 2000000 in
theorem rrecords_any (A : Option Addr) (c : Nat) (bs : List Int) (w : World) (hr : ReadsInt w .u8 A bs.length bs) (hc : bs.length ≤ c) (hl : bs.length ≤ 1000000) (hw : ∀ x ∈ bs, 0 ≤ x ∧ x ≤ 255) :
    Calls Try.prog 17 #[.slice A bs.length c] w fun e w' => ∃ v : Value, e = .returned (.tuple #[v, .int .i64 ((recsF (bs.length + 1) bs 0).2 : Nat)]) ∧ RowsLent w w' v (recsF (bs.length + 1) bs 0).1 ∧ Below w.heap.size w w' := by
  have HR := Aside0.mk hr
  have HW := Aside0.mk hw
  clear hr hw
  obtain ⟨i0, hi, _, hsz, _⟩ := info_parts info5
  have HI := Aside0.mk hi
  have HS := Aside0.mk hsz
  clear hi hsz
  go_enter Try.func17, Try.ntmps17
  go_wp2_with fail
  go_loopw [4, 5] (fun v u wr => ∃ (p k : Nat) (ts : List (List Int)), u = .int .i64 (p : Int) ∧ p ≤ bs.length ∧ Aside0 (ts.length * 6 ≤ p) ∧ Aside0 (bs.length < p + k) ∧ Aside0 (ts ++ (recsF k bs p).1 = (recsF (bs.length + 1) bs 0).1 ∧ (recsF k bs p).2 = (recsF (bs.length + 1) bs 0).2) ∧ Aside0 (RowsLent w wr v ts) ∧ Aside0 (Below w.heap.size w wr)) (fun _ u _ => bs.length - (intOf u).toNat)
  case atStart => exact ⟨0, bs.length + 1, [], rfl, by omega, ⟨by simp⟩, ⟨by omega⟩, ⟨by simp⟩, ⟨RowsLent.nil _ _⟩, ⟨Below.refl _ _⟩⟩
  case round =>
    obtain ⟨p, k, ts, rfl, hp, HT, HK, HG, HO, HB⟩ := hrel
    have finish : next1 bs p = none → (recsF (bs.length + 1) bs 0).1 = ts ∧ (recsF (bs.length + 1) bs 0).2 = p := by
      intro h
      have h1 := HG.out
      obtain ⟨k', rfl⟩ : ∃ k', k = k' + 1 := ⟨k - 1, by have := HK.out; omega⟩
      rw [recsF_stop _ _ _ h] at h1
      simp only [List.append_nil] at h1
      exact ⟨h1.1.symm, h1.2.symm⟩
    have FIN := Aside0.mk finish
    clear finish
    have HR1 := Aside0.mk (HR.out.below HB.out)
    obtain ⟨n, b, e0, hg⟩ : ∃ n b e0, getF bs p = (n, b, e0) := ⟨_, _, _, rfl⟩
    have HG1 := Aside0.mk hg
    clear hg
    go_wp2_with fail
    refine (rget_new A _ c bs p _ rfl HR1.out HW.out).mono ?_
    rintro e w2 ⟨r1, r2, r3, rfl, hg2, rfl⟩
    have hg3 := hg2.out
    rw [HG1.out] at hg3
    simp only [Prod.mk.injEq] at hg3
    obtain ⟨rfl, rfl, rfl⟩ := hg3
    have NO : Aside0 (e0 ≠ 0 ∨ n < 1 ∨ 16384 < n ∨ (bs.length : Int) - b - 4 < n → next1 bs p = none) := ⟨fun h => next1_none bs p (by rw [HG1.out]; exact h)⟩
    by_cases h1 : e0 = 0
    · have h1' : (e0 != 0) = false := by rw [bne_eq_false_iff_eq]; exact h1
      have H1 := Aside0.mk h1
      clear h1
      by_cases h2 : n < 1
      · go_wp2
        go_ret2
        have h := FIN.out (NO.out (.inr (.inl h2)))
        rw [h.1, h.2]
        exact ⟨_, rfl, HO.out, HB.out⟩
      · by_cases h3 : 16384 < n
        · go_wp2
          go_ret2
          have h := FIN.out (NO.out (.inr (.inr (.inl h3))))
          rw [h.1, h.2]
          exact ⟨_, rfl, HO.out, HB.out⟩
        · have hb := getF_ok bs p n b (by rw [HG1.out, H1.out])
          obtain ⟨hb0, hb1, hb2⟩ := hb
          have hwr : wrap64 n = n := by unfold wrap64; omega
          by_cases h4 : (bs.length : Int) - b - 4 < n
          · go_wp2
            go_ret2
            have h := FIN.out (NO.out (.inr (.inr (.inr h4))))
            rw [h.1, h.2]
            exact ⟨_, rfl, HO.out, HB.out⟩
          · obtain ⟨n, rfl⟩ := Int.eq_ofNat_of_zero_le (show 0 ≤ n by omega)
            obtain ⟨b, rfl⟩ := Int.eq_ofNat_of_zero_le (show 0 ≤ b by omega)
            obtain ⟨A1, hcutH, hrH⟩ := mid_int (P := Try.prog) (k := .u8) 25 5 Try.underlying25 HI.out HS.out A c bs p b (by omega) (by omega) hc
            obtain ⟨A3, hcutT, hrT⟩ := mid_int (P := Try.prog) (k := .u8) 25 5 Try.underlying25 HI.out HS.out A c bs (b + 4) (b + 4 + n) (by omega) (by omega) hc
            have hcutH' := fun W => hcutH W (p : Int) (b : Int) rfl rfl
            have hcutT' := fun W => hcutT W ((b : Int) + 4) ((b : Int) + 4 + (n : Int)) (by omega) (by omega)
            rw [show b + 4 + n - (b + 4) = n from by omega] at hcutT' hrT
            have HH := Aside0.mk (hrH _ HR1.out)
            have HT2 := Aside0.mk (hrT _ HR1.out)
            have HT0 := Aside0.mk (hrT _ HR.out)
            clear hcutH hcutT hrH hrT
            obtain ⟨hd, hhd⟩ : ∃ hd, (bs.drop p).take (b - p) = hd := ⟨_, rfl⟩
            obtain ⟨tx, htx⟩ : ∃ tx, (bs.drop (b + 4)).take n = tx := ⟨_, rfl⟩
            rw [hhd] at HH
            rw [htx] at HT2 HT0
            have hhl : hd.length = b - p := by rw [← hhd]; simp; omega
            have htl : tx.length = n := by rw [← htx]; simp; omega
            have HHL := Aside0.mk hhl
            have HTL := Aside0.mk htl
            have HHW := Aside0.mk (show ∀ x ∈ hd, 0 ≤ x ∧ x ≤ 255 from fun x hx => HW.out x (List.mem_of_mem_drop (List.mem_of_mem_take (hhd ▸ hx))))
            have HTW := Aside0.mk (show ∀ x ∈ tx, 0 ≤ x ∧ x ≤ 255 from fun x hx => HW.out x (List.mem_of_mem_drop (List.mem_of_mem_take (htx ▸ hx))))
            obtain ⟨q1, hq1⟩ : ∃ q, crcF 0 hd = q := ⟨_, rfl⟩
            obtain ⟨q2, hq2⟩ : ∃ q, crcF q1 tx = q := ⟨_, rfl⟩
            obtain ⟨f4, hf4⟩ : ∃ f, fourN bs b = f := ⟨_, rfl⟩
            have HQ1L := Aside0.mk (show q1 < 4294967296 by rw [← hq1]; exact crcF_lt _ _)
            have HQ2L := Aside0.mk (show q2 < 4294967296 by rw [← hq2]; exact crcF_lt _ _)
            have HN1 : Aside0 (next1 bs p = if q2 = f4 then some (tx, b + 4 + n) else none) := ⟨by
              rw [next1, HG1.out]
              simp only [Int.toNat_natCast]
              rw [if_neg (by have := H1.out; omega), hhd, htx, hq1, hq2]
              by_cases hq : q2 = f4
              · rw [if_pos hq, if_pos ((low4_four bs HW.out b q2 (by omega) HQ2L.out).2 (by rw [hf4]; exact hq))]
              · rw [if_neg hq, if_neg (fun h => hq (by rw [← hf4]; exact (low4_four bs HW.out b q2 (by omega) HQ2L.out).1 h))]⟩
            have HQ1 := Aside0.mk hq1
            have HQ2 := Aside0.mk hq2
            have HF4 := Aside0.mk hf4
            clear hq1 hq2 hf4 hhd htx hhl htl
            have hwb1 : IntKind.i64.wrap ((b : Int) + 4) = (b : Int) + 4 := IntWalk.i64_in _ (by omega)
            have hwb2 : IntKind.i64.wrap ((b : Int) + 4 + (n : Int)) = (b : Int) + 4 + (n : Int) := IntWalk.i64_in _ (by omega)
            go_wp2_with fail
            refine (rmore_any A1 (b - p) (c - p) 0 hd _ HHL.out.symm HH.out (by omega) HHW.out).mono ?_
            rintro e w5 ⟨rfl, rfl⟩
            rw [HQ1.out]
            go_wp2_with fail
            refine (rmore_any A3 n (c - (b + 4)) q1 tx _ HTL.out.symm HT2.out HQ1L.out HTW.out).mono ?_
            rintro e w5 ⟨rfl, rfl⟩
            rw [HQ2.out]
            go_wp2_with fail
            refine (rfour_any A _ c b bs _ rfl HR1.out HW.out (by omega)).mono ?_
            rintro e w6 ⟨rfl, hB6⟩
            rw [HF4.out]
            have HOc := Aside0.mk (HO.out.below hB6)
            have HBd := Aside0.mk (HB.out.trans (hB6.mono HB.out.size))
            have htl24 := Aside0.mk (show (ts.length + 1) * 24 ≤ 140737488355328 by have := HT.out; omega)
            clear hB6
            by_cases hq : q2 = f4
            · have HNX := Aside0.mk (show next1 bs p = some (tx, b + 4 + n) by rw [HN1.out, if_pos hq])
              have hqq : ((q2 : Int) != (f4 : Int)) = false := by rw [bne_eq_false_iff_eq]; omega
              have HQQ := Aside0.mk hq
              clear hq
              go_wp2_with (at_builtin; go_must (refine append_lent (w0 := w) rfl _ _ 22 rfl Try.underlying22 infoRow _ ts A3 n (c - (b + 4)) tx rfl rfl (by exact HOc.out) HTL.out.symm HT0.out (by omega) HBd.out htl24.out ?_); rintro v8 w8 ho8 hb8; have HO8 := Aside0.mk ho8; have HB8 := Aside0.mk hb8; clear ho8 hb8)
              go_roundw
              case rel =>
                have hgt := next1_gt bs p tx _ HNX.out
                obtain ⟨k', rfl⟩ : ∃ k', k = k' + 1 := ⟨k - 1, by have := HK.out; omega⟩
                refine ⟨b + 4 + n, k', ts ++ [tx], by go_num, by omega, ⟨?_⟩, ⟨by have := HK.out; omega⟩, ⟨?_⟩, HO8, HB8⟩
                · have := HT.out
                  simp only [List.length_append, List.length_singleton]
                  omega
                · have h := HG.out
                  rw [recsF_go _ _ _ _ _ HNX.out] at h
                  simpa using h
              case measure => simp [intOf]; omega
            · have hqq : ((q2 : Int) != (f4 : Int)) = true := by rw [bne_iff_ne]; omega
              have HNX := Aside0.mk (show next1 bs p = none by rw [HN1.out, if_neg hq])
              clear hq
              go_wp2
              go_ret2
              have h := FIN.out HNX.out
              rw [h.1, h.2]
              exact ⟨_, rfl, HOc.out, HBd.out⟩
    · have h1' : (e0 != 0) = true := by rw [bne_iff_ne]; exact h1
      go_wp2
      go_ret2
      have h := FIN.out (NO.out (.inl h1))
      rw [h.1, h.2]
      exact ⟨_, rfl, HO.out, HB.out⟩
end Go.Proofs.Ytkmhifacpkiefaa
