/- The reference's record. -/
import Derived.Test.YtkmhifacpkiefaaWRef4
namespace Go.Proofs.Ytkmhifacpkiefaa
set_option linter.unusedVariables false
set_option linter.unusedSimpArgs false
open Go.RowKit Go.Proofs.YtkmhifacpkiefaaW.PrintWords

theorem rwput_yes (A2 : Option Addr) (n2 c2 : Nat) (ys : List Int) (w : World) (hr2 : ReadsInt w .u8 A2 n2 ys) (hn2 : n2 = ys.length) (hw2 : ∀ x ∈ ys, 0 ≤ x ∧ x ≤ 255) (h0 : 1 ≤ n2) (h1 : n2 ≤ 16384) :
    Calls Try.prog 16 #[.slice A2 n2 c2] w fun e w' => ∃ (v' : Value) (zs : List Int), e = .returned v' ∧ Aside0 (zs = recB ys) ∧ Aside0 (w'.ownsRow w.heap.size 5 1 v' zs.length (nums .u8 zs)) ∧ Aside0 (Below w.heap.size w w') := by
  have HR2 := Aside0.mk hr2
  have HN := Aside0.mk hn2
  have HW2 := Aside0.mk hw2
  have LL := Aside0.mk (show ∀ s l, 0 ≤ ((crcF s l : Nat) : Int) ∧ ((crcF s l : Nat) : Int) < 4294967296 from fun s l => by have := crcF_lt s l; omega)
  have hwr : IntKind.u64.wrap (n2 : Int) = n2 := wraps_u64 _ (by omega) (by omega)
  clear hr2 hw2 hn2
  go_enter Try.func16, Try.ntmps16
  go_wp2_with fail
  refine (rput_any n2 _ (by omega) (by omega)).mono ?_
  rintro e w1 ⟨v1, hs, rfl, hh, ho1, hB1⟩
  obtain ⟨A3, c3, rfl, hr3⟩ := own_reads ho1.out
  have hh' : hs = enc 10 n2 := by rw [hh.out, Int.toNat_natCast]
  have hp1 : hs.length ≤ 10 := by rw [hh']; exact enc_length_le 10 _
  have HH := Aside0.mk hh'
  have HR3 := Aside0.mk hr3
  have HO1 := Aside0.mk ho1.out
  have HB1 := Aside0.mk hB1.out
  have HR4 := Aside0.mk (HR2.out.below hB1.out)
  clear hh' hr3 hh
  go_wp2_with fail
  refine (rmore_any A3 _ c3 0 hs _ rfl HR3.out (by omega) (by rw [HH.out]; exact enc_bytes 10 _)).mono ?_
  rintro e w5 ⟨rfl, rfl⟩
  obtain ⟨r1, hr1⟩ : ∃ r, crcF 0 hs = r := ⟨_, rfl⟩
  have HR1 := Aside0.mk hr1
  rw [hr1]
  have hr1l : r1 < 4294967296 := by rw [← hr1]; exact crcF_lt _ _
  clear hr1
  go_wp2_with fail
  refine (rmore_any A2 n2 c2 r1 ys _ HN.out HR4.out hr1l HW2.out).mono ?_
  rintro e w5 ⟨rfl, rfl⟩
  obtain ⟨r2, hr2⟩ : ∃ r, crcF r1 ys = r := ⟨_, rfl⟩
  have HS2 := Aside0.mk hr2
  rw [hr2]
  have hr2l : r2 < 4294967296 := by rw [← hr2]; exact crcF_lt _ _
  clear hr2
  go_wp2_with fail
  refine (rlow_new (r2 : Int) _ (by omega) (by omega)).mono ?_
  rintro e w6 ⟨v6, rfl, ho6, hB6⟩
  rw [Int.toNat_natCast] at ho6
  obtain ⟨A6, c6, rfl, hr6⟩ := own_reads ho6.out
  have HR6 := Aside0.mk hr6
  have HO6 := Aside0.mk (pw_own_below HO1.out hB6.out)
  have HB6 := Aside0.mk (HB1.out.trans (hB6.out.mono HB1.out.size))
  clear hr6
  go_wp2_with (first
    | (at_builtin; (refine print_append_row (w0 := w) w.heap.size rfl (.tmp 21) (.tmp 23) 25 5 .u8 1 rfl Try.underlying25 info5 (by omega) _ hs (low4 r2) _ 4 _ rfl rfl HO6.out HR6.out HB6.out HB6.out.size (by omega) ?_); rintro v7 w7 ho7 hb7 _ _; obtain ⟨t2, ht2⟩ : ∃ t, hs ++ low4 r2 = t := ⟨_, rfl⟩; rw [ht2] at ho7; have ht2l : t2.length ≤ 14 := (by rw [← ht2, List.length_append, low4_length]; omega); have HT2 := Aside0.mk ht2; have HO7 := Aside0.mk ho7; have HB7 := Aside0.mk hb7; clear ho7 hb7 ht2)
    | (at_builtin; go_must (refine print_append_row (w0 := w) w.heap.size rfl (.tmp 24) (.tmp 25) 25 5 .u8 1 rfl Try.underlying25 info5 (by omega) _ t2 ys A2 n2 _ rfl rfl HO7.out (HR2.out.below HB7.out) HB7.out HB7.out.size (by omega) ?_); rintro v8 w8 ho8 hb8 _ _; have HO8 := Aside0.mk ho8; have HB8 := Aside0.mk hb8; clear ho8 hb8))
  go_ret
  refine ⟨_, _, rfl, ⟨?_⟩, HO8, HB8⟩
  rw [← HT2.out, recB, ← HS2.out, ← HR1.out, HH.out, HN.out]

theorem rwput_no (A2 : Option Addr) (n2 c2 : Nat) (w : World) (h : n2 < 1 ∨ 16384 < n2) :
    Calls Try.prog 16 #[.slice A2 n2 c2] w fun e w' => e = .returned (.slice none 0 0) ∧ w = w' := by
  by_cases h0 : n2 < 1
  · go_enter Try.func16, Try.ntmps16
    go_wp2
    go_ret
    exact ⟨rfl, rfl⟩
  · have h1 : 16384 < n2 := by omega
    go_enter Try.func16, Try.ntmps16
    go_wp2
    go_ret
    exact ⟨rfl, rfl⟩
end Go.Proofs.Ytkmhifacpkiefaa
