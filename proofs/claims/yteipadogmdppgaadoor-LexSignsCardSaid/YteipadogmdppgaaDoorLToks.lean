/- lex.Tokens. -/
import Derived.Test.YteipadogmdppgaaDoorLRun
namespace Go.Proofs.YteipadogmdppgaaDoor
set_option linter.unusedVariables false
set_option linter.unusedSimpArgs false
open Go.RowKit Go.Proofs.YteipadogmdppgaaDoorW.PrintWords

theorem blank_ix : ∀ x : Fin 256, decide (0 ≤ Lib.indexByte [32, 9, 13, 10] ((x.val : Int).toNat.toUInt8)) = blankB x.val := by decide +kernel
theorem sign_ix : ∀ x : Fin 256, decide (0 ≤ Lib.indexByte [123, 125, 40, 41, 59, 61, 44] ((x.val : Int).toNat.toUInt8)) = signB x.val := by decide +kernel
theorem among_blank (x : Nat) (hx : x < 256) (w : World) (b : Bool) (hb : Aside0 (blankB x = b)) : Calls Tryd.prog 18 #[.string ⟨#[32, 9, 13, 10]⟩, .int .u8 (x : Int)] w fun e w' => e = .returned (.bool b) ∧ w = w' := by
  have h := blank_ix ⟨x, hx⟩
  simp only at h
  rw [hb.out] at h
  obtain ⟨y, hy⟩ : ∃ y, Lib.indexByte [32, 9, 13, 10] ((x : Int).toNat.toUInt8) = y := ⟨_, rfl⟩
  rw [hy] at h
  have HY : Aside0 (Lib.indexByte (⟨#[32, 9, 13, 10]⟩ : ByteArray).data.toList ((x : Int).toNat.toUInt8) = y) := ⟨hy⟩
  clear hy hb
  go_enter Tryd.func18, Tryd.ntmps18
  go_wp2_with fail
  refine (Tryd.strings_IndexByte _ _ _).mono ?_
  rintro e w1 ⟨rfl, rfl⟩
  rw [HY.out]
  go_wp2
  go_ret
  exact ⟨rfl, rfl⟩
theorem among_sign (x : Nat) (hx : x < 256) (w : World) (b : Bool) (hb : Aside0 (signB x = b)) : Calls Tryd.prog 18 #[.string ⟨#[123, 125, 40, 41, 59, 61, 44]⟩, .int .u8 (x : Int)] w fun e w' => e = .returned (.bool b) ∧ w = w' := by
  have h := sign_ix ⟨x, hx⟩
  simp only at h
  rw [hb.out] at h
  obtain ⟨y, hy⟩ : ∃ y, Lib.indexByte [123, 125, 40, 41, 59, 61, 44] ((x : Int).toNat.toUInt8) = y := ⟨_, rfl⟩
  rw [hy] at h
  have HY : Aside0 (Lib.indexByte (⟨#[123, 125, 40, 41, 59, 61, 44]⟩ : ByteArray).data.toList ((x : Int).toNat.toUInt8) = y) := ⟨hy⟩
  clear hy hb
  go_enter Tryd.func18, Tryd.ntmps18
  go_wp2_with fail
  refine (Tryd.strings_IndexByte _ _ _).mono ?_
  rintro e w1 ⟨rfl, rfl⟩
  rw [HY.out]
  go_wp2
  go_ret
  exact ⟨rfl, rfl⟩

theorem pre_slash (t : ByteArray) : Lib.hasPrefix t.data.toList (⟨#[47, 47]⟩ : ByteArray).data.toList = slashB (bs t) := by
  obtain ⟨⟨l⟩⟩ := t
  show List.isPrefixOf [47, 47] l = slashB (l.map UInt8.toNat)
  have h47 : ∀ x : UInt8, ((47 : UInt8) == x) = (x.toNat == 47) := by
    intro x
    rw [Bool.eq_iff_iff, beq_iff_eq, beq_iff_eq]
    constructor
    · rintro rfl; rfl
    · intro h; exact UInt8.toNat_inj.1 h.symm
  rcases l with _ | ⟨a, _ | ⟨b, l⟩⟩
  · rfl
  · simp [slashB, List.isPrefixOf]
  · simp [slashB, List.isPrefixOf, h47]

/-- The values of pieces. -/
def tvals (s : ByteArray) (l : List (Nat × Nat × Nat)) : List Value := l.flatMap fun t => [.int .i64 (t.1 : Int), .string (s.extract t.2.1 (t.2.1 + t.2.2)), .int .i64 (t.2.1 : Int)]
theorem tvals_snoc (s : ByteArray) (l : List (Nat × Nat × Nat)) (t : Nat × Nat × Nat) : tvals s (l ++ [t]) = tvals s l ++ [.int .i64 (t.1 : Int), .string (s.extract t.2.1 (t.2.1 + t.2.2)), .int .i64 (t.2.1 : Int)] := by simp [tvals]
theorem infoTok : (Tryd.prog.info? 28).map (fun i => (i.zero, i.size, i.bytes)) = some (some (.agg #[.int .i64 0, .string ByteArray.empty, .int .i64 0]), 3, 32) := by kernel_rfl

abbrev Toks (s : ByteArray) (base : Nat) (w : World) (v : Value) (l : List (Nat × Nat × Nat)) : Prop := w.ownsRow base 28 3 v l.length (tvals s l)
/-- How Tokens returns. -/
def TokPost (s : ByteArray) (w : World) (L : List (Nat × Nat × Nat)) (E : Option (Nat × Nat)) (e : Ending) (w' : World) : Prop :=
  match E with
  | none => ∃ v, e = .returned (.tuple #[v, .int .i64 0, .int .i64 0]) ∧ Aside0 (Toks s w.heap.size w' v L) ∧ Aside0 (Below w.heap.size w w')
  | some (a, er) => e = .returned (.tuple #[.slice none 0 0, .int .i64 (a : Int), .int .i64 (er : Int)]) ∧ Aside0 (Below w.heap.size w w')

theorem nextG_err (s : ByteArray) (p : Nat) (hp : p < s.size) (h : (Utf8.decode s p).1 = 65533 ∧ (Utf8.decode s p).2 < 2) : nextG s (p : Int) = (0, 0, false) := by
  rw [nextG, if_neg (by omega), Int.toNat_natCast, if_pos h]
theorem nextG_fine (s : ByteArray) (p : Nat) (hp : p < s.size) (h : ¬ ((Utf8.decode s p).1 = 65533 ∧ (Utf8.decode s p).2 < 2)) : nextG s (p : Int) = ((Utf8.decode s p).1, (Utf8.decode s p).2, true) := by
  rw [nextG, if_neg (by omega), Int.toNat_natCast, if_neg h]

theorem cut_str (s : ByteArray) (p m : Nat) (h1 : p ≤ m) (h2 : m ≤ s.size) (W : World) : (Instr.slice 9 (.string s) (some (.int .i64 (p : Int))) (some (.int .i64 (m : Int))) none).run Tryd.prog W = .ok (.string (s.extract p m)) W := by
  have := run_slice_string (P := Tryd.prog) W 9 s .i64 .i64 (p : Int) (m : Int) Tryd.underlying9 (by omega) (by omega) (by omega)
  rw [Int.toNat_natCast, Int.toNat_natCast] at this
  exact this

set_option maxRecDepth 100000 in
set_option maxHeartbeats 4000000 in
theorem tokens_run (s : ByteArray) (w : World) (hs : s.size ≤ 16384) (hT : Tabs w) (L : List (Nat × Nat × Nat)) (E : Option (Nat × Nat)) (hR : Aside0 (toksA 0 (bs s) = (L, E))) :
    Calls Tryd.prog 11 #[.string s] w (TokPost s w L E) := by
  have HT := Aside0.mk hT
  clear hT
  have hb1 : decide (16384 < s.size) = false := decide_eq_false (by omega)
  have hb2 : decide ((16384 : Int) < (s.size : Int)) = false := decide_eq_false (by omega)
  go_enter Tryd.func11, Tryd.ntmps11
  go_wp2_with fail
  go_loopw [5, 6] (fun v u wr => ∃ (v' : Value) (p : Nat) (acc : List (Nat × Nat × Nat)), v' = v ∧ u = .int .i64 (p : Int) ∧ p ≤ s.size ∧ acc.length ≤ p ∧ Aside0 (acc ++ (toksA p ((bs s).drop p)).1 = L) ∧ Aside0 ((toksA p ((bs s).drop p)).2 = E) ∧ Aside0 (Toks s w.heap.size wr v' acc) ∧ Aside0 (Below w.heap.size w wr)) (fun _ u _ => s.size - (intOf u).toNat)
  case atStart => exact ⟨_, 0, [], rfl, rfl, by omega, Nat.zero_le _, ⟨by rw [List.drop_zero, hR.out]; rfl⟩, ⟨by rw [List.drop_zero, hR.out]⟩, ⟨⟨rfl, .inl ⟨rfl, rfl⟩⟩⟩, ⟨Below.refl _ _⟩⟩
  case round =>
    obtain ⟨v0, p, acc, rfl, rfl, hp, hacc, HL, HE, HO, HB⟩ := hrel
    by_cases hlt : p < s.size
    · obtain ⟨u, hu⟩ : ∃ u, (bs s).drop p = u := ⟨_, rfl⟩
      have hu0 : u ≠ [] := by intro e; rw [e] at hu; have := congrArg List.length hu; rw [List.length_drop, bs_length] at this; simp at this; omega
      obtain ⟨t, ht⟩ : ∃ t, s.extract p s.size = t := ⟨_, rfl⟩
      have hbt : bs t = u := by
        rw [← ht, bs_extract, hu, ← hu, List.take_of_length_le (by rw [List.length_drop, bs_length]; omega)]
      have htz : t.size = s.size - p := by rw [← bs_length, hbt, ← hu, List.length_drop, bs_length]
      obtain ⟨x, hx⟩ : ∃ x, bt8 s p = x := ⟨_, rfl⟩
      have hx0 : u.getD 0 0 = x := by rw [← hu, getD_drop', Nat.add_zero, bs_getD, hx]
      have hsi : (s[p]'hlt).toNat = x := by rw [bt8_at, hx]
      have hxl : x < 256 := by rw [← hx]; exact bt8_lt s p
      obtain ⟨r, d, hd⟩ : ∃ r d, dL u = (r, d) := ⟨_, _, rfl⟩
      have hdec : Utf8.decode s p = (r, d) := by rw [dec_dL, hu, hd]
      have hl := HL.out
      have he := HE.out
      rw [hu] at hl he
      have hst : stepL u = _ := rfl
      conv at hst => rhs; unfold stepL
      rw [hd, hx0] at hst
      simp only at hst
      have HBT := Aside0.mk hbt
      by_cases c1 : r = 65533 ∧ d < 2
      · rw [if_pos c1] at hst
        rw [toksA_err p u hu0 9 hst] at hl he
        simp only [List.append_nil] at hl
        have HG := Aside0.mk (nextG_err s p hlt (by rw [hdec]; exact c1))
        subst hl he
        clear c1 hst hd hdec hx hu HL HE
        go_wp2_with fail
        refine (next_at s (p : Int) _ (by omega) (tabs_below HT.out HB.out) 0 0 false HG).mono ?_
        rintro e w2 ⟨rfl, hB2⟩
        have HB2 := Aside0.mk (HB.out.trans (hB2.mono HB.out.size))
        clear hB2
        go_wp2
        go_ret3
        exact ⟨rfl, HB2⟩
      · rw [if_neg c1] at hst
        have HG : Aside0 (nextG s (p : Int) = (r, d, true)) := ⟨by rw [nextG_fine s p hlt (by rw [hdec]; exact c1), hdec]⟩
        have hrl : r ≤ 1114111 := by have := (dec_le s p hlt).2.2; rw [hdec] at this; exact this
        clear c1 hd hdec hx
        by_cases c2 : blankB x = true
        · rw [if_pos c2] at hst
          rw [toksA_blank p u hu0 1 hst, ← hu, List.drop_drop] at hl he
          have HL2 := Aside0.mk hl
          have HE2 := Aside0.mk he
          have HC2 := Aside0.mk c2
          clear hst hu hl he HL HE c2
          go_wp2_with fail
          refine (next_at s (p : Int) _ (by omega) (tabs_below HT.out HB.out) r d true HG).mono ?_
          rintro e w2 ⟨rfl, hB2⟩
          have HB2 := Aside0.mk (HB.out.trans (hB2.mono HB.out.size))
          have HO2 : Aside0 (Toks s w.heap.size w2 v0 acc) := ⟨pw_own_below HO.out hB2⟩
          clear hB2
          go_wp2_with fail
          refine (among_blank x hxl _ true HC2).mono ?_
          rintro e w3 ⟨rfl, rfl⟩
          go_wp2
          go_roundw
          case rel => exact ⟨v0, p + 1, acc, rfl, by go_num, by omega, by omega, HL2, HE2, HO2, HB2⟩
          case measure => simp [intOf]; omega
        · rw [if_neg c2] at hst
          have HC2 : Aside0 (blankB x = false) := ⟨by simpa using c2⟩
          clear c2
          by_cases c3 : slashB u = true
          · rw [if_pos c3] at hst
            obtain ⟨n, hn⟩ : ∃ n, runA nlF u = n := ⟨_, rfl⟩
            rw [hn] at hst
            obtain ⟨hb3, hb4, hb5⟩ := step_bound u hu0 0 n hst
            have hul : u.length = s.size - p := by rw [← hu, List.length_drop, bs_length]
            rw [toksA_blank p u hu0 n hst, ← hu, List.drop_drop] at hl he
            have HL2 := Aside0.mk hl
            have HE2 := Aside0.mk he
            have HC3 : Aside0 (Lib.hasPrefix t.data.toList (⟨#[47, 47]⟩ : ByteArray).data.toList = true) := ⟨by rw [pre_slash, HBT.out, c3]⟩
            have HN : Aside0 (runA nlF (bs t) = n) := ⟨by rw [HBT.out, hn]⟩
            clear hst hu hl he HL HE c3 hn
            go_wp2_with fail
            refine (next_at s (p : Int) _ (by omega) (tabs_below HT.out HB.out) r d true HG).mono ?_
            rintro e w2 ⟨rfl, hB2⟩
            have HB2 := Aside0.mk (HB.out.trans (hB2.mono HB.out.size))
            have HO2 : Aside0 (Toks s w.heap.size w2 v0 acc) := ⟨pw_own_below HO.out hB2⟩
            clear hB2
            go_wp2_with fail
            refine (among_blank x hxl _ false HC2).mono ?_
            rintro e w3 ⟨rfl, rfl⟩
            go_wp2_with fail
            refine (Tryd.strings_HasPrefix t _ _).mono ?_
            rintro e w3 ⟨rfl, rfl⟩
            rw [HC3.out]
            go_wp2_with fail
            refine (run_line t _ (by omega) n HN).mono ?_
            rintro e w3 ⟨rfl, hB3⟩
            have HB3 := Aside0.mk (HB2.out.trans (hB3.mono HB2.out.size))
            have HO3 : Aside0 (Toks s w.heap.size w3 v0 acc) := ⟨pw_own_below HO2.out hB3⟩
            clear hB3
            go_wp2
            go_roundw
            case rel => exact ⟨v0, p + n, acc, rfl, by go_num, by omega, by omega, HL2, HE2, HO3, HB3⟩
            case measure => simp [intOf]; omega
          · rw [if_neg c3] at hst
            have HC3 : Aside0 (Lib.hasPrefix t.data.toList (⟨#[47, 47]⟩ : ByteArray).data.toList = false) := ⟨by rw [pre_slash, HBT.out]; simpa using c3⟩
            clear c3
            have hul : u.length = s.size - p := by rw [← hu, List.length_drop, bs_length]
            by_cases c4 : letterF (r : Int) = true
            · rw [if_pos c4] at hst
              obtain ⟨n, hn⟩ : ∃ n, runA partF u = n := ⟨_, rfl⟩
              rw [hn] at hst
              obtain ⟨hb3, hb4, hb5⟩ := step_bound u hu0 1 n hst
              rw [toksA_tok p u hu0 0 n hst, ← hu, List.drop_drop] at hl he
              have HL2 : Aside0 ((acc ++ [(1, p, n)]) ++ (toksA (p + n) ((bs s).drop (p + n))).1 = L) := ⟨by rw [List.append_assoc]; exact hl⟩
              have HE2 := Aside0.mk he
              have HN : Aside0 (runA partF (bs t) = n) := ⟨by rw [HBT.out, hn]⟩
              have HC4 := Aside0.mk c4
              obtain ⟨m, hm⟩ : ∃ m, p + n = m := ⟨_, rfl⟩
              have hmi : (p : Int) + (n : Int) = (m : Int) := by omega
              have hcut := fun W => cut_str s p m (by omega) (by omega) W
              clear hst hu hl he HL HE c4 hn
              go_wp2_with fail
              refine (next_at s (p : Int) _ (by omega) (tabs_below HT.out HB.out) r d true HG).mono ?_
              rintro e w2 ⟨rfl, hB2⟩
              have HB2 := Aside0.mk (HB.out.trans (hB2.mono HB.out.size))
              have HO2 : Aside0 (Toks s w.heap.size w2 v0 acc) := ⟨pw_own_below HO.out hB2⟩
              clear hB2
              go_wp2_with fail
              refine (among_blank x hxl _ false HC2).mono ?_
              rintro e w3 ⟨rfl, rfl⟩
              go_wp2_with fail
              refine (Tryd.strings_HasPrefix t _ _).mono ?_
              rintro e w3 ⟨rfl, rfl⟩
              rw [HC3.out]
              go_wp2_with fail
              refine (letter_any (r : Int) _ true HC4).mono ?_
              rintro e w3 ⟨rfl, rfl⟩
              go_wp2_with fail
              refine (run_part t _ (by omega) n HN).mono ?_
              rintro e w3 ⟨rfl, hB3⟩
              have HB3 := Aside0.mk (HB2.out.trans (hB3.mono HB2.out.size))
              have HO3 : Aside0 (Toks s w.heap.size w3 v0 acc) := ⟨pw_own_below HO2.out hB3⟩
              clear hB3
              go_wp2_with (at_builtin; go_must (refine print_append_cells (w0 := w) w.heap.size rfl _ _ 23 28 _ 3 32 rfl Tryd.underlying23 infoTok rfl (by omega) (by omega) _ acc.length (tvals s acc) [.int .i64 1, .string (s.extract p m), .int .i64 (p : Int)] rfl rfl rfl (by simp [Value.oneCell']) (by exact HO3.out) (by exact HB3.out) (by exact HB3.out.size) (by omega) ?_; intro v1 w4 hO4 hB4 _ _))
              go_roundw
              case rel => exact ⟨v1, m, acc ++ [(1, p, n)], rfl, by go_num, by omega, by simp; omega, by rw [← hm]; exact HL2, by rw [← hm]; exact HE2, ⟨by rw [Toks, tvals_snoc, List.length_append]; simp only; rw [hm]; exact hO4⟩, ⟨hB4⟩⟩
              case measure => simp [intOf]; omega
            · rw [if_neg c4] at hst
              have HC4 : Aside0 (letterF (r : Int) = false) := ⟨by simpa using c4⟩
              clear c4
              by_cases c5 : dgF r = true
              · rw [if_pos c5] at hst
                obtain ⟨n, hn⟩ : ∃ n, runA dgF u = n := ⟨_, rfl⟩
                rw [hn] at hst
                obtain ⟨hb3, hb4, hb5⟩ := step_bound u hu0 2 n hst
                rw [toksA_tok p u hu0 1 n hst, ← hu, List.drop_drop] at hl he
                have HL2 : Aside0 ((acc ++ [(2, p, n)]) ++ (toksA (p + n) ((bs s).drop (p + n))).1 = L) := ⟨by rw [List.append_assoc]; exact hl⟩
                have HE2 := Aside0.mk he
                have HN : Aside0 (runA dgF (bs t) = n) := ⟨by rw [HBT.out, hn]⟩
                have HC5 : Aside0 (digitF (r : Int) = true) := ⟨c5⟩
                obtain ⟨m, hm⟩ : ∃ m, p + n = m := ⟨_, rfl⟩
                have hmi : (p : Int) + (n : Int) = (m : Int) := by omega
                have hcut := fun W => cut_str s p m (by omega) (by omega) W
                clear hst hu hl he HL HE c5 hn
                go_wp2_with fail
                refine (next_at s (p : Int) _ (by omega) (tabs_below HT.out HB.out) r d true HG).mono ?_
                rintro e w2 ⟨rfl, hB2⟩
                have HB2 := Aside0.mk (HB.out.trans (hB2.mono HB.out.size))
                have HO2 : Aside0 (Toks s w.heap.size w2 v0 acc) := ⟨pw_own_below HO.out hB2⟩
                clear hB2
                go_wp2_with fail
                refine (among_blank x hxl _ false HC2).mono ?_
                rintro e w3 ⟨rfl, rfl⟩
                go_wp2_with fail
                refine (Tryd.strings_HasPrefix t _ _).mono ?_
                rintro e w3 ⟨rfl, rfl⟩
                rw [HC3.out]
                go_wp2_with fail
                refine (letter_any (r : Int) _ false HC4).mono ?_
                rintro e w3 ⟨rfl, rfl⟩
                go_wp2_with fail
                refine (digit_any (r : Int) _ true HC5).mono ?_
                rintro e w3 ⟨rfl, rfl⟩
                go_wp2_with fail
                refine (run_digits t _ (by omega) n HN).mono ?_
                rintro e w3 ⟨rfl, hB3⟩
                have HB3 := Aside0.mk (HB2.out.trans (hB3.mono HB2.out.size))
                have HO3 : Aside0 (Toks s w.heap.size w3 v0 acc) := ⟨pw_own_below HO2.out hB3⟩
                clear hB3
                go_wp2_with (at_builtin; go_must (refine print_append_cells (w0 := w) w.heap.size rfl _ _ 23 28 _ 3 32 rfl Tryd.underlying23 infoTok rfl (by omega) (by omega) _ acc.length (tvals s acc) [.int .i64 2, .string (s.extract p m), .int .i64 (p : Int)] rfl rfl rfl (by simp [Value.oneCell']) (by exact HO3.out) (by exact HB3.out) (by exact HB3.out.size) (by omega) ?_; intro v1 w4 hO4 hB4 _ _))
                go_roundw
                case rel => exact ⟨v1, m, acc ++ [(2, p, n)], rfl, by go_num, by omega, by simp; omega, by rw [← hm]; exact HL2, by rw [← hm]; exact HE2, ⟨by rw [Toks, tvals_snoc, List.length_append]; simp only; rw [hm]; exact hO4⟩, ⟨hB4⟩⟩
                case measure => simp [intOf]; omega
              · rw [if_neg c5] at hst
                have HC5 : Aside0 (digitF (r : Int) = false) := ⟨by simpa [dgF] using c5⟩
                clear c5
                by_cases c6 : signB x = true
                · rw [if_pos c6] at hst
                  rw [toksA_tok p u hu0 2 1 hst, ← hu, List.drop_drop] at hl he
                  have HL2 : Aside0 ((acc ++ [(3, p, 1)]) ++ (toksA (p + 1) ((bs s).drop (p + 1))).1 = L) := ⟨by rw [List.append_assoc]; exact hl⟩
                  have HE2 := Aside0.mk he
                  have HC6 := Aside0.mk c6
                  clear hst hu hl he HL HE c6
                  obtain ⟨m, hm⟩ : ∃ m, p + 1 = m := ⟨_, rfl⟩
                  have hmi : (p : Int) + 1 = (m : Int) := by omega
                  have hcut := fun W => cut_str s p m (by omega) (by omega) W
                  go_wp2_with fail
                  refine (next_at s (p : Int) _ (by omega) (tabs_below HT.out HB.out) r d true HG).mono ?_
                  rintro e w2 ⟨rfl, hB2⟩
                  have HB2 := Aside0.mk (HB.out.trans (hB2.mono HB.out.size))
                  have HO2 : Aside0 (Toks s w.heap.size w2 v0 acc) := ⟨pw_own_below HO.out hB2⟩
                  clear hB2
                  go_wp2_with fail
                  refine (among_blank x hxl _ false HC2).mono ?_
                  rintro e w3 ⟨rfl, rfl⟩
                  go_wp2_with fail
                  refine (Tryd.strings_HasPrefix t _ _).mono ?_
                  rintro e w3 ⟨rfl, rfl⟩
                  rw [HC3.out]
                  go_wp2_with fail
                  refine (letter_any (r : Int) _ false HC4).mono ?_
                  rintro e w3 ⟨rfl, rfl⟩
                  go_wp2_with fail
                  refine (digit_any (r : Int) _ false HC5).mono ?_
                  rintro e w3 ⟨rfl, rfl⟩
                  go_wp2_with fail
                  refine (among_sign x hxl _ true HC6).mono ?_
                  rintro e w3 ⟨rfl, rfl⟩
                  go_wp2_with (at_builtin; go_must (refine print_append_cells (w0 := w) w.heap.size rfl _ _ 23 28 _ 3 32 rfl Tryd.underlying23 infoTok rfl (by omega) (by omega) _ acc.length (tvals s acc) [.int .i64 3, .string (s.extract p m), .int .i64 (p : Int)] rfl rfl rfl (by simp [Value.oneCell']) (by exact HO2.out) (by exact HB2.out) (by exact HB2.out.size) (by omega) ?_; intro v1 w4 hO4 hB4 _ _))
                  go_roundw
                  case rel => exact ⟨v1, m, acc ++ [(3, p, 1)], rfl, by go_num, by omega, by simp; omega, by rw [← hm]; exact HL2, by rw [← hm]; exact HE2, ⟨by rw [Toks, tvals_snoc, List.length_append]; simp only; rw [hm]; exact hO4⟩, ⟨hB4⟩⟩
                  case measure => simp [intOf]; omega
                · rw [if_neg c6] at hst
                  rw [toksA_err p u hu0 5 hst] at hl he
                  simp only [List.append_nil] at hl
                  have HC6 : Aside0 (signB x = false) := ⟨by simpa using c6⟩
                  subst hl he
                  clear hst hu HL HE c6
                  go_wp2_with fail
                  refine (next_at s (p : Int) _ (by omega) (tabs_below HT.out HB.out) r d true HG).mono ?_
                  rintro e w2 ⟨rfl, hB2⟩
                  have HB2 := Aside0.mk (HB.out.trans (hB2.mono HB.out.size))
                  clear hB2
                  go_wp2_with fail
                  refine (among_blank x hxl _ false HC2).mono ?_
                  rintro e w3 ⟨rfl, rfl⟩
                  go_wp2_with fail
                  refine (Tryd.strings_HasPrefix t _ _).mono ?_
                  rintro e w3 ⟨rfl, rfl⟩
                  rw [HC3.out]
                  go_wp2_with fail
                  refine (letter_any (r : Int) _ false HC4).mono ?_
                  rintro e w3 ⟨rfl, rfl⟩
                  go_wp2_with fail
                  refine (digit_any (r : Int) _ false HC5).mono ?_
                  rintro e w3 ⟨rfl, rfl⟩
                  go_wp2_with fail
                  refine (among_sign x hxl _ false HC6).mono ?_
                  rintro e w3 ⟨rfl, rfl⟩
                  go_wp2
                  go_ret3
                  exact ⟨rfl, HB2⟩
    · have hl := HL.out
      have he := HE.out
      rw [List.drop_eq_nil_of_le (by rw [bs_length]; omega), toksA_nil] at hl he
      simp only [List.append_nil] at hl
      subst hl he
      clear HL HE
      go_wp2
      go_ret3
      exact ⟨v0, rfl, HO, HB⟩
end Go.Proofs.YteipadogmdppgaaDoor
