/- The law VintMany's walk. -/
import Derived.Test.YtachnjiielfddaaVAwake
import Derived.Test.YtachnjiielfddaaVPure
namespace Go.Proofs.Ytachnjiielfddaa
set_option linter.unusedVariables false
set_option linter.unusedSimpArgs false
open Go.RowKit Go.Proofs.YtachnjiielfddaaW.PrintWords

/-- The bytes of numbers, one behind the other. -/
def encs (l : List Int) : List Int := l.flatMap fun x => enc 10 x.toNat
theorem encs_nil : encs [] = [] := rfl
theorem encs_append (l m : List Int) : encs (l ++ m) = encs l ++ encs m := by simp [encs]
theorem encs_one (x : Int) : encs [x] = enc 10 x.toNat := by simp [encs]
theorem encs_bytes (l : List Int) : ∀ x ∈ encs l, 0 ≤ x ∧ x ≤ 255 := by
  intro x h
  obtain ⟨y, _, hy⟩ := List.mem_flatMap.1 h
  exact enc_bytes 10 _ x hy
theorem encs_length_le (l : List Int) : (encs l).length ≤ 10 * l.length := by
  induction l with
  | nil => simp [encs]
  | cons x l ih =>
    have h := enc_length_le 10 x.toNat
    have e : encs (x :: l) = enc 10 x.toNat ++ encs l := by simp [encs]
    rw [e, List.length_append, List.length_cons]
    omega
theorem take_succ_rd (l : List Int) (k : Nat) (h : k < l.length) : l.take (k + 1) = l.take k ++ [rd l k] := by
  unfold rd
  rw [Int.toNat_natCast, List.take_succ_eq_append_getElem h, List.getD_eq_getElem?_getD, List.getElem?_eq_getElem h]
  rfl
theorem split_rd (l : List Int) (k : Nat) (h : k < l.length) : l = l.take k ++ (rd l k :: l.drop (k + 1)) := by
  have h1 := List.take_append_drop (k + 1) l
  rw [take_succ_rd l k h, List.append_assoc] at h1
  exact h1.symm
theorem getF_encs (l : List Int) (k : Nat) (h : k < l.length) (h1 : (rd l k).toNat < 2 ^ 64) (h0 : 0 ≤ rd l k) :
    getF (encs l) ((encs (l.take k)).length : Int) = (rd l k, ((encs (l.take (k + 1))).length : Int), 0) := by
  have e : encs l = encs (l.take k) ++ (enc 10 (rd l k).toNat ++ encs (l.drop (k + 1))) := by
    conv => lhs; rw [split_rd l k h]
    rw [encs_append]
    congr 1
  conv => lhs; rw [e]
  rw [getF_enc _ _ _ h1, take_succ_rd l k h, encs_append, encs_one, List.length_append, Int.toNat_of_nonneg h0]
theorem getF_end (xs : List Int) : getF xs xs.length = (0, 0, 2) := by
  unfold getF
  rw [if_neg (by omega), Int.toNat_natCast, List.drop_of_length_le (Nat.le_refl _), getL]
theorem rd_u64 (l : List Int) (hw : ∀ x ∈ l, 0 ≤ x ∧ x ≤ 18446744073709551615) (k : Nat) (h : k < l.length) : 0 ≤ rd l k ∧ rd l k < 18446744073709551616 := by
  unfold rd
  rw [Int.toNat_natCast, List.getD_eq_getElem?_getD, List.getElem?_eq_getElem h]
  have := hw _ (List.getElem_mem h)
  simp only [Option.getD_some]
  omega

theorem info22 : (Try.prog.info? 22).map (fun i => (i.zero, i.size, i.bytes)) = some (some (.int .u64 0), 1, 8) := by kernel_rfl

set_option maxHeartbeats 1000000 in
theorem many_walk0 (A0 A1 : Option Addr) (n0 c0 n : Nat) (ls : List Int) (w : World) (hr : ReadsInt w .u64 A1 n ls) (hls : ls.length = n) (hn : n ≤ 200) (hw : ∀ x ∈ ls, 0 ≤ x ∧ x ≤ 18446744073709551615)
    (hcut : (200 < n0 ∧ n = 200 ∧ A1 = A0 ∧ n0 ≤ 140737488351232 ∧ ∀ W : World, (Instr.slice 33 (.slice A0 n0 c0) none (some (.int .i64 200)) none).run Try.prog W = .ok (.slice A1 n c0) W) ∨ (¬ 200 < n0 ∧ n = n0 ∧ A1 = A0)) :
    Calls Try.prog 5 #[.slice A0 n0 c0] w fun e w' => e = .returned (.bool true) ∧ Below w.heap.size w w' := by
  have HR := Aside0.mk hr
  have HLS := Aside0.mk hls
  have HW := Aside0.mk hw
  clear hr hls hw
  rcases hcut with ⟨h1, h2, rfl, hb, h4⟩ | ⟨h1, rfl, rfl⟩
  all_goals
    first
    | (have hn2 : ¬ n0 ≤ 200 := by omega
       have H2 := Aside0.mk h2
       have hnn : n ≤ 200 := by omega
       have hd : decide (200 < (n0 : Int)) = true := decide_eq_true (by omega)
       clear h2)
    | (have hn2 : n ≤ 200 := by omega
       have hd : decide (200 < (n : Int)) = false := decide_eq_false (by omega))
    go_enter Try.func5, Try.ntmps5
    go_wp2_with fail
    go_loopw [3, 4] (fun t u wr => ∃ (k : Nat) (zs : List Int), u = .int .i64 k ∧ k ≤ n ∧ Aside0 (zs = encs (ls.take k)) ∧ Aside0 (wr.ownsRow w.heap.size 5 1 t zs.length (nums .u8 zs)) ∧ Aside0 (Below w.heap.size w wr)) (fun _ u _ => n - (intOf u).toNat)
    case atStart => exact ⟨0, [], rfl, by omega, ⟨by simp [encs]⟩, ⟨own_nil _ _ _ _⟩, ⟨Below.refl _ _⟩⟩
    case round =>
      obtain ⟨k, zs, rfl, hk, hz, ho, hB⟩ := hrel
      obtain ⟨A, c, rfl, hrd⟩ := own_reads ho.out
      have HRD := Aside0.mk hrd
      clear hrd
      by_cases hlt : k < n
      · obtain ⟨ad, rfl, hcell⟩ := HR.out.at_ k (by omega) (by omega)
        rw [Int.toNat_natCast] at hcell
        replace hcell := pw_cell_below hB.out hcell
        obtain ⟨x, hx⟩ : ∃ x, rd ls k = x := ⟨_, rfl⟩
        rw [hx] at hcell
        have hxr := rd_u64 ls HW.out k (by rw [HLS.out]; exact hlt)
        rw [hx] at hxr
        have HXR := Aside0.mk hxr
        have HX := Aside0.mk hx
        have hzl : zs.length ≤ 2000 := by rw [hz.out]; have := encs_length_le (ls.take k); simp only [List.length_take] at this; omega
        clear hx hxr
        go_wp2_with fail
        refine (vput_int A c zs x _ HRD.out (own_le ho.out) HXR.out.1 HXR.out.2 (by omega)).mono ?_
        rintro e w1 ⟨v1, z1, rfl, hz1, ho1, hB1⟩
        have HB1 := Aside0.mk (hB.out.trans (hB1.out.mono hB.out.size))
        go_wp2
        go_roundw
        case rel =>
          refine ⟨k + 1, z1, by go_num, by omega, ⟨?_⟩, ⟨own_weaken ho1.out hB.out.size⟩, HB1⟩
          rw [hz1.out, hz.out, take_succ_rd ls k (by rw [HLS.out]; exact hlt), encs_append, encs_one, HX.out]
        case measure => simp [intOf]; omega
      · have hz' : Aside0 (zs = encs ls) := ⟨by rw [hz.out, List.take_of_length_le (by rw [HLS.out]; omega)]⟩
        clear hz
        go_wp2_with fail
        obtain ⟨wo, rfl⟩ : ∃ wo : World, wo = wr := ⟨_, rfl⟩
        go_loop [5, 6] (fun t u => ∃ (i p : Nat), u = .int .i64 i ∧ t = .int .i64 p ∧ i ≤ n ∧ p ≤ 2000 ∧ Aside0 (p = (encs (ls.take i)).length)) (fun _ u => n - (intOf u).toNat)
        case atStart => exact ⟨0, 0, rfl, rfl, by omega, by omega, ⟨by simp [encs]⟩⟩
        case round =>
          obtain ⟨i, p, rfl, rfl, hi, hp, HP⟩ := hrel
          by_cases hlt2 : i < n
          · obtain ⟨ad, rfl, hcell⟩ := HR.out.at_ i (by omega) (by omega)
            rw [Int.toNat_natCast] at hcell
            replace hcell := pw_cell_below hB.out hcell
            have hg := getF_encs ls i (by rw [HLS.out]; exact hlt2) (by have := rd_u64 ls HW.out i (by rw [HLS.out]; exact hlt2); omega) (rd_u64 ls HW.out i (by rw [HLS.out]; exact hlt2)).1
            have hlen : 0 < (enc 10 (rd ls i).toNat).length := enc_length_pos 9 _
            have hq : ∃ q : Nat, q = (encs (ls.take (i + 1))).length ∧ p < q ∧ q ≤ 2000 := by
              refine ⟨_, rfl, ?_, ?_⟩
              · rw [HP.out, take_succ_rd ls i (by rw [HLS.out]; exact hlt2), encs_append, encs_one, List.length_append]
                omega
              · have := encs_length_le (ls.take (i + 1))
                simp only [List.length_take] at this
                omega
            obtain ⟨q, hq1, hq2, hq3⟩ := hq
            rw [← HP.out, ← hz'.out, ← hq1] at hg
            obtain ⟨x, hx⟩ : ∃ x, rd ls i = x := ⟨_, rfl⟩
            rw [hx] at hcell hg
            have HG := Aside0.mk hg
            have HQ := Aside0.mk hq1
            clear hx hq1 hg hlen
            go_wp2_with fail
            refine (vget_new A _ c zs p _ rfl HRD.out (own_le ho.out) (by rw [hz'.out]; exact encs_bytes ls)).mono ?_
            rintro e w2 ⟨r1, r2, r3, rfl, hg, rfl⟩
            have hgg := hg.out
            rw [HG.out] at hgg
            simp only [Prod.mk.injEq] at hgg
            obtain ⟨rfl, rfl, rfl⟩ := hgg
            have hne : (x != x) = false := by simp
            go_wp2
            go_round
            case rel => exact ⟨i + 1, q, by go_num, rfl, by omega, hq3, HQ⟩
            case measure => simp [intOf]; omega
          · have hpz : p = zs.length := by rw [HP.out, hz'.out, List.take_of_length_le (by rw [HLS.out]; omega)]
            have hg := getF_end zs
            rw [← hpz] at hg
            have HG := Aside0.mk hg
            have hpe : ((p : Int) == (zs.length : Int)) = true := by rw [beq_iff_eq, hpz]
            clear hg hpz
            go_wp2_with fail
            refine (vget_new A _ c zs p _ rfl HRD.out (own_le ho.out) (by rw [hz'.out]; exact encs_bytes ls)).mono ?_
            rintro e w2 ⟨r1, r2, r3, rfl, hg, rfl⟩
            have hgg := hg.out
            rw [HG.out] at hgg
            simp only [Prod.mk.injEq] at hgg
            obtain ⟨rfl, rfl, rfl⟩ := hgg
            go_wp2_with fail
            refine (awake_any _).mono ?_
            rintro e w6 ⟨rfl, hB6⟩
            have HB6 := Aside0.mk hB6
            clear hB6
            go_wp2
            go_ret
            exact ⟨rfl, hB.out.trans (HB6.out.mono hB.out.size)⟩

theorem many_walk (A0 : Option Addr) (c0 : Nat) (xs : List Int) (w : World) (hr : ReadsInt w .u64 A0 xs.length xs) (hc : xs.length ≤ c0) (hl : xs.length * 8 ≤ 140737488351232) (hw : ∀ x ∈ xs, 0 ≤ x ∧ x ≤ 18446744073709551615) :
    Calls Try.prog 5 #[.slice A0 xs.length c0] w fun e w' => e = .returned (.bool true) ∧ Below w.heap.size w w' := by
  by_cases h : 200 < xs.length
  · obtain ⟨i0, hi, _, hsz, _⟩ := info_parts info22
    obtain ⟨hcut, hrt⟩ := take_int (P := Try.prog) (k := .u64) 33 22 Try.underlying33 hi hsz A0 c0 xs 200 (by omega) hc
    exact many_walk0 A0 A0 xs.length c0 200 (xs.take 200) w (hrt w hr) (by simp; omega) (by omega) (fun x hx => hw x (List.mem_of_mem_take hx)) (.inl ⟨h, rfl, rfl, by omega, fun W => hcut W 200 rfl⟩)
  · exact many_walk0 A0 A0 xs.length c0 xs.length xs w hr rfl (by omega) hw (.inr ⟨h, rfl, rfl⟩)
end Go.Proofs.Ytachnjiielfddaa
