/- The law WalAll's walk. -/
import Derived.Test.YtkmhifacpkiefaaWRefRecs
namespace Go.Proofs.Ytkmhifacpkiefaa
set_option linter.unusedVariables false
set_option linter.unusedSimpArgs false
open Go.RowKit Go.Proofs.YtkmhifacpkiefaaW.PrintWords

/-- A record, or nothing. -/
def recO (ys : List Int) : List Int := if 1 ≤ ys.length ∧ ys.length ≤ 16384 then recB ys else []
theorem recO_le (ys : List Int) : (recO ys).length ≤ 16398 := by
  unfold recO
  split
  · have := enc_length_le 10 ys.length
    rw [recB_length]
    omega
  · simp
theorem strOfNums_app (xs ys : List Int) : strOfNums (xs ++ ys) = strOfNums xs ++ strOfNums ys := by
  have h : ∀ a b : ByteArray, a ++ b = ⟨a.data ++ b.data⟩ := fun a b => ByteArray.ext (by simp)
  rw [h]
  simp [strOfNums]
theorem recO_pos (ys : List Int) : (0 < (recO ys).length) = (1 ≤ ys.length ∧ ys.length ≤ 16384) := by
  unfold recO
  split
  · next h => rw [recB_length]; simp only [eq_iff_iff]; constructor <;> intro _ <;> first | exact h | omega
  · next h => simp only [List.length_nil, Nat.lt_irrefl, eq_iff_iff, false_iff]; exact h

theorem wput_all (A : Option Addr) (n c : Nat) (xs : List Int) (A2 : Option Addr) (n2 c2 : Nat) (ys : List Int) (w : World) (hn : n = xs.length) (hr : ReadsInt w .u8 A n xs) (hc : n ≤ c)
    (hr2 : ReadsInt w .u8 A2 n2 ys) (hn2 : n2 = ys.length) (hw2 : ∀ x ∈ ys, 0 ≤ x ∧ x ≤ 255) (hl : n + 20000 ≤ 140737488355328) (zs : List Int) (hz : Aside0 (xs ++ recO ys = zs)) (L : Nat) (hL : Aside0 (zs.length = L)) (ok : Bool) (hok : Aside0 (decide (0 < (recO ys).length) = ok)) :
    Calls Try.prog 15 #[.slice A n c, .slice A2 n2 c2] w fun e w' => ∃ (A' : Option Addr) (c' : Nat), e = .returned (.tuple #[.slice A' L c', .bool ok]) ∧ Aside0 (ReadsInt w' .u8 A' L zs) ∧ Aside0 (Below w.heap.size w w') := by
  subst hn
  have hm := hr2.2.1
  by_cases h : 1 ≤ ys.length ∧ ys.length ≤ 16384
  · refine (wput_yes A c xs A2 n2 c2 ys w hr hc hr2 hn2 hw2 (by omega) (by omega) hl).mono ?_
    rintro e w' ⟨v, zs', rfl, hz', ho, hb⟩
    have e1 : zs' = zs := by rw [hz'.out, ← hz.out, recO, if_pos h]
    have e2 : ok = true := by rw [← hok.out, decide_eq_true_iff, recO_pos]; exact h
    subst e1 e2
    obtain ⟨A', c', rfl, hrd⟩ := own_reads ho.out
    rw [hL.out] at hrd ⊢
    exact ⟨A', c', rfl, ⟨hrd⟩, hb⟩
  · refine (wput_no A xs.length c A2 n2 c2 w (by omega) (by omega)).mono ?_
    rintro e w' ⟨rfl, rfl⟩
    have e1 : xs = zs := by rw [← hz.out, recO, if_neg h, List.append_nil]
    have e2 : ok = false := by rw [← hok.out, decide_eq_false_iff_not, recO_pos]; exact h
    subst e1 e2
    rw [hL.out] at hr ⊢
    exact ⟨A, c, rfl, ⟨hr⟩, ⟨Below.refl _ _⟩⟩

theorem rwput_all (A2 : Option Addr) (n2 c2 : Nat) (ys : List Int) (w : World) (hr2 : ReadsInt w .u8 A2 n2 ys) (hn2 : n2 = ys.length) (hw2 : ∀ x ∈ ys, 0 ≤ x ∧ x ≤ 255) (zs : List Int) (hz : Aside0 (recO ys = zs)) (L : Nat) (hL : Aside0 (zs.length = L)) :
    Calls Try.prog 16 #[.slice A2 n2 c2] w fun e w' => ∃ (A' : Option Addr) (c' : Nat), e = .returned (.slice A' L c') ∧ Aside0 (ReadsInt w' .u8 A' L zs) ∧ Aside0 (Below w.heap.size w w') := by
  by_cases h : 1 ≤ ys.length ∧ ys.length ≤ 16384
  · refine (rwput_yes A2 n2 c2 ys w hr2 hn2 hw2 (by omega) (by omega)).mono ?_
    rintro e w' ⟨v, zs', rfl, hz', ho, hb⟩
    have e1 : zs' = zs := by rw [hz'.out, ← hz.out, recO, if_pos h]
    subst e1
    obtain ⟨A', c', rfl, hrd⟩ := own_reads ho.out
    rw [hL.out] at hrd ⊢
    exact ⟨A', c', rfl, ⟨hrd⟩, hb⟩
  · refine (rwput_no A2 n2 c2 w (by omega)).mono ?_
    rintro e w' ⟨rfl, rfl⟩
    have e1 : [] = zs := by rw [← hz.out, recO, if_neg h]
    subst e1
    have e2 : L = 0 := by rw [← hL.out]; rfl
    subst e2
    exact ⟨none, 0, rfl, ⟨nilReads _ _⟩, ⟨Below.refl _ _⟩⟩

theorem rrecords_new (A : Option Addr) (n c : Nat) (bs : List Int) (w : World) (hn : n = bs.length) (hr : Aside0 (ReadsInt w .u8 A n bs)) (hc : n ≤ c) (hl : n ≤ 1000000) (hw : ∀ x ∈ bs, 0 ≤ x ∧ x ≤ 255)
    (rs : List (List Int)) (z m : Nat) (hrec : Aside0 (recsF (bs.length + 1) bs 0 = (rs, z))) (hm : Aside0 (rs.length = m)) (hm2 : m ≤ 1000000) :
    Calls Try.prog 17 #[.slice A n c] w fun e w' => ∃ (A' : Option Addr) (c' : Nat), e = .returned (.tuple #[.slice A' m c', .int .i64 (z : Int)]) ∧ Aside0 (RowsRd w' A' rs) ∧ Aside0 (Below w.heap.size w w') := by
  subst hn
  refine (rrecords_any A c bs w hr.out hc hl hw).mono ?_
  rintro e w' ⟨v, rfl, ho, hb⟩
  rw [hrec.out] at ho ⊢
  obtain ⟨A', c', rfl⟩ := ho.slice
  simp only [hm.out] at ho ⊢
  exact ⟨A', c', rfl, ⟨ho.rd hb (by rw [hm.out]; omega)⟩, ⟨hb⟩⟩

theorem recsF_le (bs : List Int) : ∀ (k a : Nat), a ≤ bs.length → (recsF k bs a).1.length * 6 + a ≤ bs.length := by
  intro k
  induction k with
  | zero => intro a h; simpa [recsF] using h
  | succ k ih =>
    intro a h
    rw [recsF]
    split
    · simpa using h
    · next t e he =>
      have h1 := next1_gt bs a t e he
      have h2 := ih e h1.2.1
      simp only [List.length_cons]
      omega

theorem wall_out (A : Option Addr) (c : Nat) (xs : List Int) (A2 : Option Addr) (c2 : Nat) (ys : List Int) (a1 : Int) (w : World) (hm : xs.length ≤ 9223372036854775807) (hm2 : ys.length ≤ 9223372036854775807) (h : 20000 < ys.length ∨ 20000 < xs.length) :
    Calls Try.prog 7 #[.slice A xs.length c, .slice A2 ys.length c2, .int .i64 a1] w fun e w' => e = .returned (.bool true) ∧ Below w.heap.size w w' := by
  by_cases h1 : 20000 < ys.length
  · clear h
    go_enter Try.func7, Try.ntmps7
    go_wp2_with fail
    refine (awake_any _).mono ?_
    rintro e w6 ⟨rfl, hB6⟩
    have HB6 := Aside0.mk hB6
    clear hB6
    go_wp2
    go_ret
    exact ⟨rfl, HB6.out⟩
  · have h2 : 20000 < xs.length := by omega
    clear h
    go_enter Try.func7, Try.ntmps7
    go_wp2_with fail
    refine (awake_any _).mono ?_
    rintro e w6 ⟨rfl, hB6⟩
    have HB6 := Aside0.mk hB6
    clear hB6
    go_wp2
    go_ret
    exact ⟨rfl, HB6.out⟩

set_option maxRecDepth 100000 in
set_option maxHeartbeats 4000000 in
theorem wall_walk (A0 : Option Addr) (c0 : Nat) (xs : List Int) (A2 : Option Addr) (c2 : Nat) (ys : List Int) (a1 : Int) (w : World) (hr : ReadsInt w .u8 A0 xs.length xs) (hc : xs.length ≤ c0) (hw : ∀ x ∈ xs, 0 ≤ x ∧ x ≤ 255) (hr2 : ReadsInt w .u8 A2 ys.length ys) (hw2 : ∀ x ∈ ys, 0 ≤ x ∧ x ≤ 255)
    (h1 : -9223372036854775808 ≤ a1 ∧ a1 ≤ 9223372036854775807) (hxl : xs.length ≤ 20000) (hyl : ys.length ≤ 20000) :
    Calls Try.prog 7 #[.slice A0 xs.length c0, .slice A2 ys.length c2, .int .i64 a1] w fun e w' => e = .returned (.bool true) ∧ Below w.heap.size w w' := by
  have HR := Aside0.mk hr
  have HW := Aside0.mk hw
  have HR2 := Aside0.mk hr2
  have HW2 := Aside0.mk hw2
  clear hr hw hr2 hw2
  obtain ⟨i0, hi, _, hsz, _⟩ := info_parts info5
  have HI := Aside0.mk hi
  have HS := Aside0.mk hsz
  clear hi hsz
  obtain ⟨zs, hzs⟩ : ∃ zs, recO ys = zs := ⟨_, rfl⟩
  obtain ⟨us, hus⟩ : ∃ us, xs ++ recO ys = us := ⟨_, rfl⟩
  obtain ⟨Lz, hLz⟩ : ∃ L, zs.length = L := ⟨_, rfl⟩
  obtain ⟨Lu, hLu⟩ : ∃ L, us.length = L := ⟨_, rfl⟩
  obtain ⟨ok, hok⟩ : ∃ ok, decide (0 < (recO ys).length) = ok := ⟨_, rfl⟩
  have hok2 : decide (0 < (Lz : Int)) = ok := by
    rw [← hok, hzs, hLz]
    exact decide_eq_decide.2 (by omega)
  have hokk : (ok != ok) = false := by cases ok <;> rfl
  have HZS := Aside0.mk hzs
  have HUS := Aside0.mk hus
  have HLZ := Aside0.mk hLz
  have HLU := Aside0.mk hLu
  have HOK := Aside0.mk hok
  have hzl : Lz ≤ 16398 := by rw [← hLz, ← hzs]; exact recO_le _
  obtain ⟨sb, hsb⟩ : ∃ sb, strOfNums xs = sb := ⟨_, rfl⟩
  obtain ⟨se, hse⟩ : ∃ se, strOfNums zs = se := ⟨_, rfl⟩
  obtain ⟨sc, hsc⟩ : ∃ sc, strOfNums us = sc := ⟨_, rfl⟩
  have hcat : sb ++ se = sc := by
    rw [← hsb, ← hse, ← hsc, ← hus, hzs, strOfNums_app]
  have hsz1 : sb.size = xs.length := by rw [← hsb, strOfNums_size]
  have hsz2 : se.size = Lz := by rw [← hse, strOfNums_size, hLz]
  have hsum : ¬ (9223372036854775807 < sb.size + se.size) := by omega
  have HSB := Aside0.mk hsb; have HSE := Aside0.mk hse; have HSC := Aside0.mk hsc
  have hok3 : decide (0 < Lz) = ok := by rw [← hok, hzs, hLz]
  clear hsz1 hsz2 hokk hsb hse hsc hok hLz hLu hus hzs
  have hd1 : decide (20000 < (ys.length : Int)) = false := decide_eq_false (by omega)
  have hd2 : decide (20000 < (xs.length : Int)) = false := decide_eq_false (by omega)
  cases ok
  all_goals
    go_enter Try.func7, Try.ntmps7
    go_wp2_with (first
        | (at_builtin; with_reducible refine print_append_row (w0 := w) w.heap.size rfl (.const (.slice none 0 0)) (.tmp 26) 25 5 .u8 1 rfl Try.underlying25 info5 (by omega) (.slice none 0 0) [] xs _ _ _ rfl rfl (own_nil _ _ _ _) (by exact HR.out) (by exact Below.refl _ _) (Nat.le_refl _) (by simp; omega) ?_; rintro v2 w2 ho2 hb2 hg2 hat; simp only [List.nil_append] at ho2; have HO2 := Aside0.mk ho2; have HB2 := Aside0.mk hb2; clear ho2 hb2 hg2 hat)
        | (at_builtin; go_must (refine print_append_num (w0 := w) w.heap.size rfl (.tmp 27) (.tmp 28) 25 5 .u8 1 rfl Try.underlying25 info5 (by omega) _ xs 99 rfl rfl (by exact HO2.out) (by exact HB2.out) HB2.out.size (by omega) ?_); rintro v3 w3 ho3 hb3 hg3 hat; obtain ⟨g, cap, rfl, hgb, hgl⟩ := ho3.form (by simp); have hcut := (take_int (P := Try.prog) (k := .u8) 25 5 Try.underlying25 HI.out HS.out (some ⟨g, 0, none⟩) cap (xs ++ [99]) xs.length (by simp) (own_le ho3)).1; simp only [List.length_append, List.length_singleton] at ho3 hcut; have hcut1 := fun W => hcut W (xs.length : Int) rfl; clear hcut; have HO3 := Aside0.mk ho3; have HB3 := Aside0.mk hb3; clear ho3 hb3 hg3 hat)
        | fail)
    have HXR := Aside0.mk (HR.out.below (HB3.out.mono (Nat.le_refl _)))
    have HCR := Aside0.mk (show ReadsInt w3 .u8 (some ⟨g, 0, none⟩) xs.length xs by
      have h := (own_reads' (c := cap) HO3.out).take_ xs.length (by omega)
      rwa [List.take_left' rfl] at h)
    have HCP := Aside0.mk (show xs.length ≤ cap by have := own_le HO3.out; omega)
    have hca := (own_at HO3.out (xs.length : Int) (by omega) (by omega)).1
    rw [Int.toNat_natCast, show rd (xs ++ [99]) (xs.length : Int) = 99 from by simp [rd]] at hca
    have hcp1 : xs.length + 1 ≤ cap := own_le HO3.out
    refine (wput_all (some ⟨g, 0, none⟩) _ cap xs A2 _ c2 ys _ rfl HCR.out HCP.out (HR2.out.below HB3.out) rfl HW2.out (by omega) us HUS Lu HLU _ HOK).mono ?_
    rintro e w4 ⟨A4, c4, rfl, HR4, hB4⟩
    have HB4 := Aside0.mk (HB3.out.trans (hB4.out.mono HB3.out.size))
    go_wp2_with fail
    refine (rwput_all A2 _ c2 ys _ (HR2.out.below HB4.out) rfl HW2.out zs HZS Lz HLZ).mono ?_
    rintro e w5 ⟨A5, c5, rfl, HR5, hB5⟩
    have HB5 := Aside0.mk (HB4.out.trans (hB5.out.mono HB4.out.size))
    have hs1 := str_reads (c := c0) (HR.out.below HB5.out)
    have hs2 := str_reads (c := c4) (HR4.out.below hB5.out)
    have hs3 := str_reads (c := c5) HR5.out
    rw [HSB.out] at hs1
    rw [HSC.out] at hs2
    rw [HSE.out] at hs3
    replace hca := pw_cell_below (hB4.out.trans (hB5.out.mono hB4.out.size)) hca
    obtain ⟨rs, z, hrec⟩ : ∃ rs z, recsF (xs.length + 1) xs 0 = (rs, z) := ⟨_, _, rfl⟩
    obtain ⟨m, hm⟩ : ∃ m, rs.length = m := ⟨_, rfl⟩
    have hm2 : m ≤ 1000000 := by
      have h := recsF_le xs (xs.length + 1) 0 (by omega)
      rw [hrec] at h
      have h2 : rs.length * 6 + 0 ≤ xs.length := h
      omega
    have HREC := Aside0.mk hrec
    have HM := Aside0.mk hm
    clear hrec hm
    by_cases hn : 1 ≤ a1
    · by_cases hn2 : a1 ≤ 16384
      · obtain ⟨k, rfl⟩ := Int.eq_ofNat_of_zero_le (show 0 ≤ a1 by omega)
        have hk1 : 1 ≤ k := by omega
        have hk2 : k ≤ 16384 := by omega
        have hmk := print_make (P := Try.prog) 25 5 .u8 1 Try.underlying25 info5 (by omega) k (by omega)
        have HMD := Aside0.mk (own_made w5 w5.heap.size 5 .u8 k (Nat.le_refl _) (by omega))
        obtain ⟨S, hS⟩ : ∃ S, (recO (List.replicate k 0)).length = S := ⟨_, rfl⟩
        have HSL := Aside0.mk hS
        have HSS := Aside0.mk (show S = (enc 10 k).length + 4 + k by rw [← hS, recO, if_pos (by simp; omega), recB_length]; simp)
        clear hS
        go_wp2_with fail
        refine (rwput_all (some ⟨w5.heap.size, 0, none⟩) k k (List.replicate k 0) _ (by have h := own_reads' (show World.ownsRow (w5.alloc _) w5.heap.size 5 1 (.slice (some ⟨w5.heap.size, 0, none⟩) (List.replicate k (0 : Int)).length k) (List.replicate k (0 : Int)).length (nums .u8 (List.replicate k 0)) from by simpa using HMD.out); simpa using h) (by simp) (by intro x hx; rw [(List.mem_replicate.1 hx).2]; omega) _ ⟨rfl⟩ S HSL).mono ?_
        rintro e w6 ⟨A6, c6, rfl, HR6, hB6⟩
        have HB6 := Aside0.mk (HB5.out.trans ((((Below.refl w5.heap.size w5).alloc (Nat.le_refl _) _).trans (hB6.out.mono (by simp))).mono HB5.out.size))
        go_wp2_with fail
        refine (bytes_new A0 _ c0 xs _ rfl (HR.out.below HB6.out) (by omega)).mono ?_
        rintro e w7 ⟨v7, rfl, ho7, hB7⟩
        have HB7 := Aside0.mk (HB6.out.trans (hB7.out.mono HB6.out.size))
        obtain ⟨A7, c7, rfl, hr7⟩ := own_reads ho7.out
        have HR7 := Aside0.mk hr7
        have HLE7 := Aside0.mk (own_le ho7.out)
        clear hr7
        go_wp2_with fail
        refine (records_new A7 _ c7 xs _ rfl HR7 HLE7.out (by omega) HW.out rs z m HREC HM hm2).mono ?_
        rintro e w8 ⟨A8, c8, rfl, HRA, hB8⟩
        have HB8 := Aside0.mk (HB7.out.trans (hB8.out.mono HB7.out.size))
        go_wp2_with fail
        refine (rrecords_new A0 _ c0 xs _ rfl ⟨HR.out.below HB8.out⟩ hc (by omega) HW.out rs z m HREC HM hm2).mono ?_
        rintro e w9 ⟨A9, c9, rfl, HRB, hB9⟩
        have HB9 := Aside0.mk (HB8.out.trans (hB9.out.mono HB8.out.size))
        have HRA9 := Aside0.mk (HRA.out.below hB9.out)
        go_wp2_with fail
        refine (size_yes k _ hk1 hk2).mono ?_
        rintro e w10 ⟨sz, rfl, hsz, hB10⟩
        obtain rfl : sz = S := by rw [hsz.out, HSS.out]
        have HB10 := Aside0.mk (HB9.out.trans (hB10.out.mono HB9.out.size))
        have HRA10 := Aside0.mk (HRA9.out.below hB10.out)
        have HRB10 := Aside0.mk (HRB.out.below hB10.out)
        go_wp2_with fail
        go_loopw [16] (fun u wr => ∃ i : Nat, u = .int .i64 (i : Int) ∧ i ≤ m ∧ Aside0 (Below w10.heap.size w10 wr)) (fun u _ => m - (intOf u).toNat)
        case atStart => exact ⟨0, rfl, by omega, ⟨Below.refl _ _⟩⟩
        case round =>
          obtain ⟨i, rfl, hi, HBr⟩ := hrel
          by_cases hlt : i < m
          · obtain ⟨ad, A11, c11, rfl, hcell, hr11, hc11⟩ := HRA10.out.2 i (by rw [HM.out]; exact hlt)
            obtain ⟨ad2, A12, c12, rfl, hcell2, hr12, hc12⟩ := HRB10.out.2 i (by rw [HM.out]; exact hlt)
            obtain ⟨t, ht⟩ : ∃ t, rs.getD i [] = t := ⟨_, rfl⟩
            rw [ht] at hcell hr11 hcell2 hr12
            replace hcell := pw_cell_below HBr.out hcell
            replace hcell2 := pw_cell_below HBr.out hcell2
            have hs5 := fun k => str_reads (c := c11) ((hr11.below HBr.out).below (pw_below_drewN (Below.refl _ _) k))
            have hs6 := fun k => str_reads (c := c12) ((hr12.below HBr.out).below (pw_below_drewN (Below.refl _ _) k))
            clear hr11 hr12 hc11 hc12 ht
            go_wp2_with fail
            go_quiet (fail)
            go_wp2
            go_roundw
            case rel => exact ⟨i + 1, by go_num, by omega, ⟨pw_below_drewN HBr.out nq⟩⟩
            case measure => simp [intOf]; omega
          · go_wp2_with fail
            refine (awake_any _).mono ?_
            rintro e w13 ⟨rfl, hB13⟩
            have HB13 := Aside0.mk hB13
            clear hB13
            go_wp2
            go_ret
            have c1 := HB10.out.trans (HBr.out.mono HB10.out.size)
            exact ⟨rfl, c1.trans (HB13.out.mono c1.size)⟩
      · have HB6 := HB5
        go_wp2_with fail
        refine (bytes_new A0 _ c0 xs _ rfl (HR.out.below HB6.out) (by omega)).mono ?_
        rintro e w7 ⟨v7, rfl, ho7, hB7⟩
        have HB7 := Aside0.mk (HB6.out.trans (hB7.out.mono HB6.out.size))
        obtain ⟨A7, c7, rfl, hr7⟩ := own_reads ho7.out
        have HR7 := Aside0.mk hr7
        have HLE7 := Aside0.mk (own_le ho7.out)
        clear hr7
        go_wp2_with fail
        refine (records_new A7 _ c7 xs _ rfl HR7 HLE7.out (by omega) HW.out rs z m HREC HM hm2).mono ?_
        rintro e w8 ⟨A8, c8, rfl, HRA, hB8⟩
        have HB8 := Aside0.mk (HB7.out.trans (hB8.out.mono HB7.out.size))
        go_wp2_with fail
        refine (rrecords_new A0 _ c0 xs _ rfl ⟨HR.out.below HB8.out⟩ hc (by omega) HW.out rs z m HREC HM hm2).mono ?_
        rintro e w9 ⟨A9, c9, rfl, HRB, hB9⟩
        have HB9 := Aside0.mk (HB8.out.trans (hB9.out.mono HB8.out.size))
        have HRA9 := Aside0.mk (HRA.out.below hB9.out)
        go_wp2_with fail
        refine (size_no a1 _ (by omega)).mono ?_
        rintro e w10 ⟨rfl, rfl⟩
        have HB10 := HB9
        have HRA10 := HRA9
        have HRB10 := HRB
        go_wp2_with fail
        go_loopw [16] (fun u wr => ∃ i : Nat, u = .int .i64 (i : Int) ∧ i ≤ m ∧ Aside0 (Below w9.heap.size w9 wr)) (fun u _ => m - (intOf u).toNat)
        case atStart => exact ⟨0, rfl, by omega, ⟨Below.refl _ _⟩⟩
        case round =>
          obtain ⟨i, rfl, hi, HBr⟩ := hrel
          by_cases hlt : i < m
          · obtain ⟨ad, A11, c11, rfl, hcell, hr11, hc11⟩ := HRA10.out.2 i (by rw [HM.out]; exact hlt)
            obtain ⟨ad2, A12, c12, rfl, hcell2, hr12, hc12⟩ := HRB10.out.2 i (by rw [HM.out]; exact hlt)
            obtain ⟨t, ht⟩ : ∃ t, rs.getD i [] = t := ⟨_, rfl⟩
            rw [ht] at hcell hr11 hcell2 hr12
            replace hcell := pw_cell_below HBr.out hcell
            replace hcell2 := pw_cell_below HBr.out hcell2
            have hs5 := fun k => str_reads (c := c11) ((hr11.below HBr.out).below (pw_below_drewN (Below.refl _ _) k))
            have hs6 := fun k => str_reads (c := c12) ((hr12.below HBr.out).below (pw_below_drewN (Below.refl _ _) k))
            clear hr11 hr12 hc11 hc12 ht
            go_wp2_with fail
            go_quiet (fail)
            go_wp2
            go_roundw
            case rel => exact ⟨i + 1, by go_num, by omega, ⟨pw_below_drewN HBr.out nq⟩⟩
            case measure => simp [intOf]; omega
          · go_wp2_with fail
            refine (awake_any _).mono ?_
            rintro e w13 ⟨rfl, hB13⟩
            have HB13 := Aside0.mk hB13
            clear hB13
            go_wp2
            go_ret
            have c1 := HB10.out.trans (HBr.out.mono HB10.out.size)
            exact ⟨rfl, c1.trans (HB13.out.mono c1.size)⟩
    · have HB6 := HB5
      go_wp2_with fail
      refine (bytes_new A0 _ c0 xs _ rfl (HR.out.below HB6.out) (by omega)).mono ?_
      rintro e w7 ⟨v7, rfl, ho7, hB7⟩
      have HB7 := Aside0.mk (HB6.out.trans (hB7.out.mono HB6.out.size))
      obtain ⟨A7, c7, rfl, hr7⟩ := own_reads ho7.out
      have HR7 := Aside0.mk hr7
      have HLE7 := Aside0.mk (own_le ho7.out)
      clear hr7
      go_wp2_with fail
      refine (records_new A7 _ c7 xs _ rfl HR7 HLE7.out (by omega) HW.out rs z m HREC HM hm2).mono ?_
      rintro e w8 ⟨A8, c8, rfl, HRA, hB8⟩
      have HB8 := Aside0.mk (HB7.out.trans (hB8.out.mono HB7.out.size))
      go_wp2_with fail
      refine (rrecords_new A0 _ c0 xs _ rfl ⟨HR.out.below HB8.out⟩ hc (by omega) HW.out rs z m HREC HM hm2).mono ?_
      rintro e w9 ⟨A9, c9, rfl, HRB, hB9⟩
      have HB9 := Aside0.mk (HB8.out.trans (hB9.out.mono HB8.out.size))
      have HRA9 := Aside0.mk (HRA.out.below hB9.out)
      go_wp2_with fail
      refine (size_no a1 _ (by omega)).mono ?_
      rintro e w10 ⟨rfl, rfl⟩
      have HB10 := HB9
      have HRA10 := HRA9
      have HRB10 := HRB
      go_wp2_with fail
      go_loopw [16] (fun u wr => ∃ i : Nat, u = .int .i64 (i : Int) ∧ i ≤ m ∧ Aside0 (Below w9.heap.size w9 wr)) (fun u _ => m - (intOf u).toNat)
      case atStart => exact ⟨0, rfl, by omega, ⟨Below.refl _ _⟩⟩
      case round =>
        obtain ⟨i, rfl, hi, HBr⟩ := hrel
        by_cases hlt : i < m
        · obtain ⟨ad, A11, c11, rfl, hcell, hr11, hc11⟩ := HRA10.out.2 i (by rw [HM.out]; exact hlt)
          obtain ⟨ad2, A12, c12, rfl, hcell2, hr12, hc12⟩ := HRB10.out.2 i (by rw [HM.out]; exact hlt)
          obtain ⟨t, ht⟩ : ∃ t, rs.getD i [] = t := ⟨_, rfl⟩
          rw [ht] at hcell hr11 hcell2 hr12
          replace hcell := pw_cell_below HBr.out hcell
          replace hcell2 := pw_cell_below HBr.out hcell2
          have hs5 := fun k => str_reads (c := c11) ((hr11.below HBr.out).below (pw_below_drewN (Below.refl _ _) k))
          have hs6 := fun k => str_reads (c := c12) ((hr12.below HBr.out).below (pw_below_drewN (Below.refl _ _) k))
          clear hr11 hr12 hc11 hc12 ht
          go_wp2_with fail
          go_quiet (fail)
          go_wp2
          go_roundw
          case rel => exact ⟨i + 1, by go_num, by omega, ⟨pw_below_drewN HBr.out nq⟩⟩
          case measure => simp [intOf]; omega
        · go_wp2_with fail
          refine (awake_any _).mono ?_
          rintro e w13 ⟨rfl, hB13⟩
          have HB13 := Aside0.mk hB13
          clear hB13
          go_wp2
          go_ret
          have c1 := HB10.out.trans (HBr.out.mono HB10.out.size)
          exact ⟨rfl, c1.trans (HB13.out.mono c1.size)⟩

theorem wall_law (A0 : Option Addr) (c0 : Nat) (xs : List Int) (A2 : Option Addr) (c2 : Nat) (ys : List Int) (a1 : Int) (w : World) (hr : ReadsInt w .u8 A0 xs.length xs) (hc : xs.length ≤ c0) (hl : xs.length * 1 ≤ 140737488351232) (hw : ∀ x ∈ xs, 0 ≤ x ∧ x ≤ 255)
    (hr2 : ReadsInt w .u8 A2 ys.length ys) (hc2 : ys.length ≤ c2) (hl2 : ys.length * 1 ≤ 140737488351232) (hw2 : ∀ x ∈ ys, 0 ≤ x ∧ x ≤ 255) (h1 : -9223372036854775808 ≤ a1 ∧ a1 ≤ 9223372036854775807) :
    Calls Try.prog 7 #[.slice A0 xs.length c0, .slice A2 ys.length c2, .int .i64 a1] w fun e w' => e = .returned (.bool true) ∧ Below w.heap.size w w' := by
  by_cases h : 20000 < ys.length ∨ 20000 < xs.length
  · exact wall_out A0 c0 xs A2 c2 ys a1 w hr.2.1 hr2.2.1 h
  · exact wall_walk A0 c0 xs A2 c2 ys a1 w hr hc hw hr2 hw2 h1 (by omega) (by omega)
end Go.Proofs.Ytkmhifacpkiefaa
