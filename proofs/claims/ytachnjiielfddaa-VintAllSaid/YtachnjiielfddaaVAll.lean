/- The law VintAll's walk. -/
import Derived.Test.YtachnjiielfddaaVRefGet
import Derived.Test.YtachnjiielfddaaVBack
import Derived.Deep.RegionHeld3
import Derived.Deep.DeepCutAuto
import Derived.Deep.CutBlock
namespace Go.Proofs.Ytachnjiielfddaa
set_option linter.unusedVariables false
set_option linter.unusedSimpArgs false
open Go.RowKit Go.Proofs.YtachnjiielfddaaW.PrintWords

/-- string(b), b a slice that is read. -/
theorem str_reads {w : World} {A : Option Addr} {n c : Nat} {xs : List Int} (h : ReadsInt w .u8 A n xs) : (convert 27 9 (.slice A n c)).run Try.prog w = .ok (.string (strOfNums xs)) w :=
  string_of_reads Try.underlying27 Try.underlying5 Try.underlying9 h

theorem strOfNums_append (xs ys : List Int) : strOfNums (xs ++ ys) = strOfNums xs ++ strOfNums ys := by
  have h : ∀ a b : ByteArray, a ++ b = ⟨a.data ++ b.data⟩ := fun a b => ByteArray.ext (by simp)
  rw [h]
  simp [strOfNums]

theorem vput_rel (w0 : World) (A : Option Addr) (c : Nat) (xs : List Int) (v : Int) (w : World) (hb : Aside0 (Below w0.heap.size w0 w)) (hr : Aside0 (ReadsInt w0 .u8 A xs.length xs)) (hc : xs.length ≤ c) (h0 : 0 ≤ v) (hv : v < 18446744073709551616)
    (hl : xs.length + 10 ≤ 140737488355328) (sc : ByteArray) (hs : Aside0 (strOfNums (xs ++ enc 10 v.toNat) = sc)) :
    Calls Try.prog 12 #[.slice A xs.length c, .int .u64 v] w fun e w' => ∃ (v' : Value) (zs : List Int), e = .returned v' ∧ (convert 27 9 v').run Try.prog w' = .ok (.string sc) w' ∧ Aside0 (strOfNums zs = sc) ∧ Aside0 (w'.ownsRow w.heap.size 5 1 v' zs.length (nums .u8 zs)) ∧ Aside0 (Below w.heap.size w w') ∧ Aside0 (Below w0.heap.size w0 w') :=
  (vput_int A c xs v w (hr.out.below hb.out) hc h0 hv hl).mono fun _ _ ⟨v', zs, h1, h2, h3, h4⟩ => ⟨v', zs, h1, by rw [← hs.out, ← h2.out]; exact str_own h3.out, ⟨by rw [h2.out]; exact hs.out⟩, h3, h4, ⟨hb.out.trans (h4.out.mono hb.out.size)⟩⟩

theorem rput_rel (w0 : World) (v : Int) (w : World) (hb : Aside0 (Below w0.heap.size w0 w)) (h0 : 0 ≤ v) (hv : v < 18446744073709551616) (se : ByteArray) (hs : Aside0 (strOfNums (enc 10 v.toNat) = se)) (L : Nat) (hL : Aside0 ((enc 10 v.toNat).length = L)) :
    Calls Try.prog 14 #[.int .u64 v] w fun e w' => ∃ (A : Option Addr) (c : Nat), e = .returned (.slice A L c) ∧ (convert 27 9 (.slice A L c)).run Try.prog w' = .ok (.string se) w' ∧ Aside0 (Below w.heap.size w w') ∧ Aside0 (Below w0.heap.size w0 w') :=
  (rput_any v w h0 hv).mono fun _ _ ⟨v', zs, h1, h2, h3, h4⟩ => by
    obtain ⟨A, c, rfl, hr⟩ := own_reads h3.out
    have hzl : zs.length = L := by rw [h2.out, hL.out]
    have hss := str_own h3.out
    rw [hzl, h2.out, hs.out] at hss
    rw [hzl] at h1
    exact ⟨A, c, h1, hss, h4, ⟨hb.out.trans (h4.out.mono hb.out.size)⟩⟩

theorem vlen_rel (w0 : World) (v : Int) (w : World) (hb : Aside0 (Below w0.heap.size w0 w)) (h0 : 0 ≤ v) (h1 : v < 18446744073709551616) (L : Nat) (hL : Aside0 ((enc 10 v.toNat).length = L)) :
    Calls Try.prog 9 #[.int .u64 v] w fun e w' => e = .returned (.int .i64 L) ∧ Aside0 (Below w0.heap.size w0 w') :=
  (vlen_new v w h0 h1).mono fun _ _ ⟨n, h1, h2, h4⟩ => ⟨by rw [h1, h2.out, hL.out], ⟨hb.out.trans (h4.out.mono hb.out.size)⟩⟩

set_option maxRecDepth 100000 in
set_option maxHeartbeats 2000000 in
theorem all_walk (A0 : Option Addr) (c0 : Nat) (xs : List Int) (a1 a2 a3 : Int) (w : World) (hr : ReadsInt w .u8 A0 xs.length xs) (hc : xs.length ≤ c0) (hl : xs.length * 1 ≤ 140737488351232) (hw : ∀ x ∈ xs, 0 ≤ x ∧ x ≤ 255)
    (h1 : 0 ≤ a1 ∧ a1 ≤ 18446744073709551615) (h2 : -9223372036854775808 ≤ a2 ∧ a2 ≤ 9223372036854775807) (h3 : -9223372036854775808 ≤ a3 ∧ a3 ≤ 9223372036854775807) :
    Calls Try.prog 6 #[.slice A0 xs.length c0, .int .u64 a1, .int .i64 a2, .int .i64 a3] w fun e w' => e = .returned (.bool true) ∧ Below w.heap.size w w' := by
  have HR := Aside0.mk hr
  have HW := Aside0.mk hw
  have H1 := Aside0.mk h1
  have H3 := Aside0.mk h3
  clear hr hw h1 h2 h3
  obtain ⟨i0, hi, _, hsz, _⟩ := info_parts info5
  have HI := Aside0.mk hi
  have HS := Aside0.mk hsz
  clear hi hsz
  go_enter Try.func6, Try.ntmps6
  go_wp2_with (first
      | (at_builtin; with_reducible refine print_append_row (w0 := w) w.heap.size rfl (.const (.slice none 0 0)) (.tmp 16) 27 5 .u8 1 rfl Try.underlying27 info5 (by omega) (.slice none 0 0) [] xs _ _ _ rfl rfl (own_nil _ _ _ _) (by exact HR.out) (by exact Below.refl _ _) (Nat.le_refl _) (by simp; omega) ?_; rintro v2 w2 ho2 hb2 hg2 hat; simp only [List.nil_append] at ho2; have HO2 := Aside0.mk ho2; have HB2 := Aside0.mk hb2; clear ho2 hb2 hg2 hat)
      | (at_builtin; go_must (refine print_append_num (w0 := w) w.heap.size rfl (.tmp 17) (.tmp 18) 27 5 .u8 1 rfl Try.underlying27 info5 (by omega) _ xs 99 rfl rfl (by exact HO2.out) (by exact HB2.out) HB2.out.size (by omega) ?_); rintro v3 w3 ho3 hb3 hg3 hat; obtain ⟨g, cap, rfl, hgb, hgl⟩ := ho3.form (by simp); have hcut := (take_int (P := Try.prog) (k := .u8) 27 5 Try.underlying27 HI.out HS.out (some ⟨g, 0, none⟩) cap (xs ++ [99]) xs.length (by simp) (own_le ho3)).1; simp only [List.length_append, List.length_singleton] at ho3 hcut; have hcut1 := fun W => hcut W (xs.length : Int) rfl; clear hcut; have HO3 := Aside0.mk ho3; have HB3 := Aside0.mk hb3; clear ho3 hb3 hg3 hat)
      | fail)
  have HXR := Aside0.mk (HR.out.below (HB3.out.mono (Nat.le_refl _)))
  have HCR := Aside0.mk (show ReadsInt w3 .u8 (some ⟨g, 0, none⟩) xs.length xs by
    have h := (own_reads' (c := cap) HO3.out).take_ xs.length (by omega)
    rwa [List.take_left' rfl] at h)
  have HCP := Aside0.mk (show xs.length ≤ cap by have := own_le HO3.out; omega)
  obtain ⟨sb, hsb⟩ : ∃ sb, strOfNums xs = sb := ⟨_, rfl⟩
  obtain ⟨se, hse⟩ : ∃ se, strOfNums (enc 10 a1.toNat) = se := ⟨_, rfl⟩
  obtain ⟨sc, hsc⟩ : ∃ sc, strOfNums (xs ++ enc 10 a1.toNat) = sc := ⟨_, rfl⟩
  have hcat : sb ++ se = sc := by
    rw [← hsb, ← hse, ← hsc, strOfNums_append]
  have hsz1 : sb.size = xs.length := by rw [← hsb, strOfNums_size]
  have hsz2 : se.size ≤ 10 := by rw [← hse, strOfNums_size]; exact enc_length_le 10 _
  have hsum : ¬ (9223372036854775807 < sb.size + se.size) := by omega
  clear hsz1 hsz2
  have hcv := fun W (hW : Below w3.heap.size w3 W) => str_reads (c := c0) (HXR.out.below hW)
  rw [hsb] at hcv
  obtain ⟨L, hL⟩ : ∃ L, (enc 10 a1.toNat).length = L := ⟨_, rfl⟩
  have HL := Aside0.mk hL
  clear hL
  have HSB := Aside0.mk hsb; have HSE := Aside0.mk hse; have HSC := Aside0.mk hsc
  clear hsb hse hsc
  have HD := Aside0.mk (show Below w3.heap.size w3 w3.drew from (Below.refl _ _).drew)
  have hcb0 := hcv _ HD.out
  have HCV := Aside0.mk hcv
  clear hcv
  go_cut [55] (fun v wc => v = .bool false ∧ Aside0 (Below w3.heap.size w3 wc))
  case first =>
    go_region_held (fun W => (convert 27 9 (.slice A0 xs.length c0)).run Try.prog W = .ok (.string sb) W) (exact HCV.out _ (Aside0.out (by assumption)))
      (first
        | (go_at_call 12; refine (vput_rel w3 _ _ _ _ _ (by assumption) HCR HCP.out H1.out.1 (by have := H1.out.2; omega) (by omega) sc HSC).mono ?_; rintro e wp ⟨v1, z1, rfl, hs1, hz1, ho1, hB1, hBp⟩; have hcb := HCV.out _ hBp.out)
        | (go_at_call 14; refine (rput_rel w3 _ _ (by assumption) H1.out.1 (by have := H1.out.2; omega) se HSE L HL).mono ?_; rintro e wq ⟨A2, c2, rfl, hs2, hB2, hBq⟩; have hcb := HCV.out _ hBq.out; try (have hs3 := str_own (pw_own_below ho1.out hB2.out); rw [hz1.out] at hs3))
        | (go_at_call 9; refine (vlen_rel w3 _ _ (by assumption) H1.out.1 (by have := H1.out.2; omega) L HL).mono ?_; rintro e wl ⟨rfl, hBl⟩; have hcb := HCV.out _ hBl.out)
        | (go_at_call 10; refine (vzig_any a3 _ H3.out.1 H3.out.2).mono ?_; rintro e wz ⟨rfl, rfl⟩)
        | (go_at_call 15; refine (rzig_any a3 _ H3.out.1 H3.out.2).mono ?_; rintro e wz ⟨rfl, rfl⟩)
        | (go_at_call 16; refine (vzag_any a1 _ H1.out.1 (by have := H1.out.2; omega)).mono ?_; rintro e wz ⟨rfl, rfl⟩)
        | (go_at_call 17; refine (rzag_any a1 _ H1.out.1 (by have := H1.out.2; omega)).mono ?_; rintro e wz ⟨rfl, rfl⟩))
    all_goals
      go_wp2
      go_meet
      case rel => exact ⟨rfl, by assumption⟩
  case rest =>
    obtain ⟨rfl, HBc⟩ := hcut
    have hca := (own_at HO3.out (xs.length : Int) (by omega) (by omega)).1
    rw [Int.toNat_natCast, show rd (xs ++ [99]) (xs.length : Int) = 99 from by simp [rd]] at hca
    replace hca := pw_cell_below HBc.out hca
    have hcp1 : xs.length + 1 ≤ cap := own_le HO3.out
    go_wp2_with fail
    refine (vget_new _ _ cap xs a2 _ rfl (HCR.out.below HBc.out) HCP.out HW.out).mono ?_
    rintro e w4 ⟨r1, r2, r3, rfl, hg, rfl⟩
    go_wp2_with fail
    refine (rget_new _ _ c0 xs a2 _ rfl (HXR.out.below HBc.out) HW.out).mono ?_
    rintro e w4 ⟨q1, q2, q3, rfl, hq, rfl⟩
    have hgq := hq.out
    rw [hg.out] at hgq
    simp only [Prod.mk.injEq] at hgq
    obtain ⟨rfl, rfl, rfl⟩ := hgq
    go_wp2_with fail
    refine (awake_any _).mono ?_
    rintro e w5 ⟨rfl, hB5⟩
    have HB5 := Aside0.mk hB5
    clear hB5
    go_wp2
    go_ret
    have c1 := HB3.out.trans (HBc.out.mono HB3.out.size)
    exact ⟨rfl, c1.trans (HB5.out.mono c1.size)⟩
end Go.Proofs.Ytachnjiielfddaa
