/- The statement IdlBlanks. -/
import Derived.Test.YtbfhglaaombglaaDoorIBlankPure
import Derived.Test.YtbfhglaaombglaaDoorISame
import Derived.Test.YtbfhglaaombglaaDoorIgE
import Derived.Test.YtbfhglaaombglaaDoorIgB
import Derived.Test.YtbfhglaaombglaaDoorIJoin
namespace Go.Proofs.YtbfhglaaombglaaDoor
set_option linter.unusedVariables false
set_option linter.unusedSimpArgs false
open Go.RowKit Go.ChangeMaps Go.Proofs.YtbfhglaaombglaaDoorW.PrintWords Go.Proofs.YtbfhglaaombglaaDoorW.PrintMore Go.Proofs.YtbfhglaaombglaaDoor.PIdlParses

theorem short_of {w : World} {A1 A2 A3 : Option Addr} {ms : List S45} {es : List S68} {ts : List S72} (h1 : k45.C w A1 ms.length ms) (h2 : k68.C w A2 es.length es) (h3 : k72.C w A3 ts.length ts) : Short ms es ts := by
  refine ⟨h1.2.1, h2.2.1, h3.2.1, fun x hx => ?_, fun x hx => ?_⟩
  · obtain ⟨j, hj, rfl⟩ := List.mem_iff_getElem.1 hx
    obtain ⟨_, _, hc⟩ := h1.2.2 (by omega)
    obtain ⟨cs, _, hK, _⟩ := hc j _ (List.getElem?_eq_getElem hj)
    obtain ⟨_, _, _, _, _, _, C1, _, C2⟩ := k45_open hK
    exact ⟨C1.2.1, C2.2.1⟩
  · obtain ⟨j, hj, rfl⟩ := List.mem_iff_getElem.1 hx
    obtain ⟨_, _, hc⟩ := h2.2.2 (by omega)
    obtain ⟨cs, _, hK, _⟩ := hc j _ (List.getElem?_eq_getElem hj)
    obtain ⟨_, _, _, _, C1⟩ := k68_open hK
    exact C1.2.1
/-- What is put in. -/
def hopS : ByteArray := ⟨#[32, 47, 47, 32, 104, 111, 112, 10, 10]⟩
theorem hop_steps (p : Nat) (q : List Nat) : Steps p (bs hopS ++ q) [] (p + 9) q := by
  have e : bs hopS ++ q = 32 :: 47 :: 47 :: 32 :: 104 :: 111 :: 112 :: 10 :: 10 :: q := rfl
  rw [e]
  have s1 : ∀ c (u : List Nat), blankB c = true → stepL (c :: u) = .inr (0, 1) := by
    intro c u hc
    unfold stepL
    rw [dL_low c u (blank_low hc)]
    have : ¬ (c = 65533 ∧ 1 < 2) := by have := blank_low hc; omega
    rw [if_neg this]
    show (if blankB c then _ else _) = _
    rw [if_pos hc]
  have r : runA nlF (47 :: 47 :: 32 :: 104 :: 111 :: 112 :: 10 :: 10 :: q) = 6 := by
    simp [runA_step, dL_low, nlF]
  have s2 : stepL (47 :: 47 :: 32 :: 104 :: 111 :: 112 :: 10 :: 10 :: q) = .inr (0, 6) := by
    unfold stepL
    rw [dL_low 47 _ (by decide), if_neg (by decide), r]
    rfl
  refine .blank (by simp) (s1 32 _ (by decide)) ?_
  refine .blank (by simp) s2 ?_
  refine .blank (by simp) (s1 10 _ (by decide)) ?_
  refine .blank (by simp) (s1 10 _ (by decide)) ?_
  exact .nil _ _
/-- A schema with blanks behind a sign is the same. -/
theorem blank_parse (s : ByteArray) (k : Nat) (hs : s.size ≤ 5000) (hk : k ≤ s.size) (hk0 : 0 < k) (hsg : signB (bt8 s (k - 1)) = true) (h47 : ∀ i, i < k → bt8 s i ≠ 47) (x : Sc) (a : Nat) (h : parseF s = (x, a, 0)) :
    parseF (s.extract 0 k ++ hopS ++ s.extract k s.size) = (x, 0, 0) := by
  have hsz : (s.extract 0 k ++ hopS ++ s.extract k s.size).size = s.size + 9 := by
    rw [ByteArray.size_append, ByteArray.size_append, ByteArray.size_extract, ByteArray.size_extract]
    have : hopS.size = 9 := rfl
    omega
  rw [parseF, if_neg (by omega)] at h ⊢
  obtain ⟨L, E, hLE⟩ : ∃ L E, toksA 0 (bs s) = (L, E) := ⟨_, _, rfl⟩
  rw [hLE] at h
  cases E with
  | some ae =>
    exfalso
    obtain ⟨a9, e9⟩ := ae
    simp only at h
    have he := (Prod.mk.inj (Prod.mk.inj h).2).2
    obtain ⟨v, _, _, hv⟩ := (toks_steps _ 0 (bs s) (Nat.le_refl _)).2 L a9 e9 hLE
    have := step_err v e9 hv
    omega
  | none =>
    simp only at h
    have hst := (toks_steps _ 0 (bs s) (Nat.le_refl _)).1 L hLE
    rw [Nat.zero_add, bs_length] at hst
    have hl : ((bs s).take k).length = k := by rw [List.length_take, bs_length]; omega
    have hgx : ∀ i, i < k → ((bs s).take k).getD i 0 = bt8 s i := fun i hi => by
      rw [← bs_getD, List.getD_eq_getElem?_getD, List.getElem?_take_of_lt hi, ← List.getD_eq_getElem?_getD]
    obtain ⟨L1, L2, e1, e2, e3⟩ := sign_cut ((bs s).drop k) hst rfl ((bs s).take k) (List.take_append_drop _ _).symm (by intro e; rw [e] at hl; simp at hl; omega) (by rw [hl, hgx _ (by omega)]; exact hsg) (by rw [hl]; intro i hi; rw [hgx i hi]; exact h47 i hi)
    rw [hl, Nat.zero_add] at e2 e3
    have e4 := e3 32 ([47, 47, 32, 104, 111, 112, 10, 10] ++ (bs s).drop k) (by decide)
    have hb : bs (s.extract 0 k ++ hopS ++ s.extract k s.size) = (bs s).take k ++ 32 :: ([47, 47, 32, 104, 111, 112, 10, 10] ++ (bs s).drop k) := by
      rw [bs_append, bs_append, bs_extract, bs_extract, List.drop_zero, Nat.sub_zero, List.append_assoc]
      have : ((bs s).drop k).take (s.size - k) = (bs s).drop k := List.take_of_length_le (by rw [List.length_drop, bs_length]; omega)
      rw [this]
      rfl
    have e5 := (e4.app (hop_steps k ((bs s).drop k))).app (e2.shift 9)
    rw [← hb] at e5
    have e6 := e5.toks
    rw [toksA_nil, List.append_nil, List.append_nil] at e6
    rw [e6]
    simp only
    refine parseT_er (L.map (tkOf s)) _ s.size _ ?_ x a h
    rw [e1]
    simp only [List.map_append, List.map_map, List.append_nil]
    congr 1
    · refine List.map_congr_left fun t ht => ?_
      have b1 := steps_in e4 t ht
      show (⟨t.1, (s.extract 0 k ++ hopS ++ s.extract k s.size).extract t.2.1 (t.2.1 + t.2.2), 0⟩ : Tk) = ⟨t.1, s.extract t.2.1 (t.2.1 + t.2.2), 0⟩
      rw [ByteArray.append_assoc, join_lo s _ k t.2.1 (t.2.1 + t.2.2) hk b1.2.1]
    · refine List.map_congr_left fun t ht => ?_
      have b1 := steps_in e2 t ht
      show (⟨t.1, (s.extract 0 k ++ hopS ++ s.extract k s.size).extract (t.2.1 + 9) (t.2.1 + 9 + t.2.2), 0⟩ : Tk) = ⟨t.1, s.extract t.2.1 (t.2.1 + t.2.2), 0⟩
      have h9 := join_hi s (s.extract 0 k ++ hopS) k t.2.1 (t.2.1 + t.2.2) 9 hk b1.2.1 b1.1 (by omega) (by rw [ByteArray.size_append, ex_size _ _ _ hk]; rfl)
      rw [show t.2.1 + 9 + t.2.2 = t.2.1 + t.2.2 + 9 by omega, h9]
end Go.Proofs.YtbfhglaaombglaaDoor
