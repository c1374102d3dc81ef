/- small, laid, awake of layer 18. -/
import Derived.Test.YtkmhifacpkiefaaWRecords
import Derived.Lib.SlBytesConst
namespace Go.Proofs.Ytkmhifacpkiefaa
set_option linter.unusedVariables false
set_option linter.unusedSimpArgs false
open Go.RowKit Go.Proofs.YtkmhifacpkiefaaW.PrintWords

/-- A slice of slices of bytes that reads as these lists. -/
def RowsRd (w : World) (A : Option Addr) (ts : List (List Int)) : Prop :=
  ts.length ≤ 9223372036854775807 ∧ ∀ j, j < ts.length → ∃ ad A1 c1, A = some ad ∧ w.cell? (ad.add j) = some (.slice A1 (ts.getD j []).length c1) ∧ ReadsInt w .u8 A1 (ts.getD j []).length (ts.getD j []) ∧ (ts.getD j []).length ≤ c1
theorem RowsRd.below {w w1 : World} {A : Option Addr} {ts : List (List Int)} (h : RowsRd w A ts) (hb : Below w.heap.size w w1) : RowsRd w1 A ts :=
  ⟨h.1, fun j hj => by
    obtain ⟨ad, A1, c1, h1, h2, h3, h4⟩ := h.2 j hj
    exact ⟨ad, A1, c1, h1, pw_cell_below hb h2, h3.below hb, h4⟩⟩
theorem RowsOwn.rd {w : World} {base c : Nat} {A : Option Addr} {n : Nat} {ts : List (List Int)} (h : RowsOwn w base (.slice A n c) ts) (hn : ts.length ≤ 9223372036854775807) : RowsRd w A ts := ⟨hn, fun j hj => h.at_ j hj⟩

def Small (ts : List (List Int)) : Prop := (∀ t ∈ ts, t.length ≤ 3000) ∧ ts.length ≤ 30

theorem getD_mem {ts : List (List Int)} {j : Nat} (h : j < ts.length) : ts.getD j [] ∈ ts := by
  rw [List.getD_eq_getElem?_getD, List.getElem?_eq_getElem h]
  exact List.getElem_mem h

theorem small_yes (A : Option Addr) (n c : Nat) (ts : List (List Int)) (w : World) (hr : RowsRd w A ts) (hn : n = ts.length) (h : Small ts) :
    Calls Try.prog 9 #[.slice A n c] w fun e w' => e = .returned (.bool true) ∧ w = w' := by
  have HR := Aside0.mk hr
  have HS := Aside0.mk h
  have HN := Aside0.mk hn
  have hn30 : n ≤ 30 := by rw [hn]; exact h.2
  clear hr h hn
  go_enter Try.func9, Try.ntmps9
  go_wp2_with fail
  go_loop [3] (fun u => ∃ i : Nat, u = .int .i64 (i : Int) ∧ i ≤ n) (fun u => n - (intOf u).toNat)
  case atStart => exact ⟨0, rfl, by omega⟩
  case round =>
    obtain ⟨i, rfl, hi⟩ := hrel
    by_cases hlt : i < n
    · obtain ⟨ad, A1, c1, rfl, hcell, hr1, hc1⟩ := HR.out.2 i (by have := HN.out; omega)
      obtain ⟨m, hm⟩ : ∃ m, (ts.getD i []).length = m := ⟨_, rfl⟩
      rw [hm] at hcell
      have hml : ¬ 3000 < m := by
        have := HS.out.1 _ (getD_mem (j := i) (ts := ts) (by have := HN.out; omega))
        omega
      clear hr1 hc1 hm
      go_wp2
      go_round
      case rel => exact ⟨i + 1, by go_num, by omega⟩
      case measure => simp [intOf]; omega
    · go_wp2
      go_ret
      refine ⟨?_, rfl⟩
      simp
      omega

theorem small_no (A : Option Addr) (n c : Nat) (ts : List (List Int)) (w : World) (hr : RowsRd w A ts) (hn : n = ts.length) (h : ¬ Small ts) :
    Calls Try.prog 9 #[.slice A n c] w fun e w' => e = .returned (.bool false) ∧ w = w' := by
  have hm := hr.1
  have HR := Aside0.mk hr
  have HS := Aside0.mk h
  have HN := Aside0.mk hn
  have hnm : n ≤ 9223372036854775807 := by omega
  clear hr h hn hm
  go_enter Try.func9, Try.ntmps9
  go_wp2_with fail
  go_loop [3] (fun u => ∃ i : Nat, u = .int .i64 (i : Int) ∧ i ≤ n ∧ Aside0 (∀ j, j < i → (ts.getD j []).length ≤ 3000)) (fun u => n - (intOf u).toNat)
  case atStart => exact ⟨0, rfl, by omega, ⟨fun j hj => by omega⟩⟩
  case round =>
    obtain ⟨i, rfl, hi, HJ⟩ := hrel
    by_cases hlt : i < n
    · obtain ⟨ad, A1, c1, rfl, hcell, hr1, hc1⟩ := HR.out.2 i (by have := HN.out; omega)
      obtain ⟨m, hm⟩ : ∃ m, (ts.getD i []).length = m := ⟨_, rfl⟩
      rw [hm] at hcell
      have HM := Aside0.mk hm
      clear hr1 hc1 hm
      by_cases hml : 3000 < m
      · go_wp2
        go_ret
        exact ⟨rfl, rfl⟩
      · go_wp2
        go_round
        case rel =>
          refine ⟨i + 1, by go_num, by omega, ⟨fun j hj => ?_⟩⟩
          rcases Nat.lt_or_ge j i with h | h
          · exact HJ.out j h
          · obtain rfl : j = i := by omega
            rw [HM.out]
            omega
        case measure => simp [intOf]; omega
    · have h30 : ¬ n ≤ 30 := by
        intro h30
        refine HS.out ⟨fun t ht => ?_, by rw [← HN.out]; exact h30⟩
        obtain ⟨j, hj, rfl⟩ := List.mem_iff_getElem.1 ht
        have := HJ.out j (by have := HN.out; omega)
        rwa [List.getD_eq_getElem?_getD, List.getElem?_eq_getElem hj] at this
      go_wp2
      go_ret
      exact ⟨by simp; omega, rfl⟩

/-- The records of the lists that are not empty. -/
def laidB (ts : List (List Int)) : List Int := (ts.filter (fun t => !t.isEmpty)).flatMap recB
/-- Where each ends, behind p bytes. -/
def endsF : Nat → List (List Int) → List Int
  | _, [] => []
  | p, t :: ts => ((p + (recB t).length : Nat) : Int) :: endsF (p + (recB t).length) ts
def endsB (ts : List (List Int)) : List Int := endsF 0 (ts.filter (fun t => !t.isEmpty))

theorem endsF_append (a b : List (List Int)) : ∀ p, endsF p (a ++ b) = endsF p a ++ endsF (p + (a.flatMap recB).length) b := by
  induction a with
  | nil => intro p; simp [endsF]
  | cons t a ih =>
    intro p
    simp only [List.cons_append, endsF, ih, List.flatMap_cons, List.length_append, List.cons.injEq, true_and]
    congr 2
    omega
theorem endsF_length (a : List (List Int)) : ∀ p, (endsF p a).length = a.length := by
  induction a with
  | nil => intro p; rfl
  | cons t a ih => intro p; simp [endsF, ih]
theorem recB_length (t : List Int) : (recB t).length = (enc 10 t.length).length + 4 + t.length := by simp [recB, low4_length, Nat.add_assoc]
theorem laid_bytes (ts : List (List Int)) (hw : ∀ t ∈ ts, ∀ x ∈ t, 0 ≤ x ∧ x ≤ 255) : ∀ x ∈ laidB ts, 0 ≤ x ∧ x ≤ 255 := by
  intro x h
  obtain ⟨t, ht, hx⟩ := List.mem_flatMap.1 h
  exact recB_bytes t (hw t ((List.mem_filter.1 ht).1)) x hx
theorem flat_le (ts : List (List Int)) (h : ∀ t ∈ ts, t.length ≤ 3000) : (ts.flatMap recB).length ≤ 3014 * ts.length := by
  induction ts with
  | nil => simp
  | cons t ts ih =>
    have h1 := h t (List.mem_cons_self ..)
    have h2 := enc_length_le 10 t.length
    have h3 := ih (fun u hu => h u (List.mem_cons_of_mem _ hu))
    simp only [List.flatMap_cons, List.length_append, List.length_cons, recB_length]
    omega
theorem laidB_le (ts : List (List Int)) (h : Small ts) : (laidB ts).length ≤ 90420 := by
  have h1 := flat_le (ts.filter (fun t => !t.isEmpty)) (fun t ht => h.1 t ((List.mem_filter.1 ht).1))
  have h2 := List.length_filter_le (fun t : List Int => !t.isEmpty) ts
  have h3 := h.2
  unfold laidB
  omega
theorem take_succ_getD (ts : List (List Int)) (i : Nat) (h : i < ts.length) : ts.take (i + 1) = ts.take i ++ [ts.getD i []] := by
  rw [List.take_succ_eq_append_getElem h, List.getD_eq_getElem?_getD, List.getElem?_eq_getElem h]
  rfl
theorem laidB_snoc (ts : List (List Int)) (t : List Int) : laidB (ts ++ [t]) = laidB ts ++ (if t.isEmpty then [] else recB t) := by
  unfold laidB
  cases h : t.isEmpty <;> simp [List.filter_append, h]
theorem endsB_snoc (ts : List (List Int)) (t : List Int) : endsB (ts ++ [t]) = endsB ts ++ (if t.isEmpty then [] else [(((laidB ts).length + (recB t).length : Nat) : Int)]) := by
  unfold endsB laidB
  cases h : t.isEmpty <;> simp [List.filter_append, h, endsF_append, endsF]

theorem info3 : (Try.prog.info? 3).map (fun i => (i.zero, i.size, i.bytes)) = some (some (.int .i64 0), 1, 8) := by kernel_rfl

set_option maxHeartbeats 1000000 in
theorem laid_any (A : Option Addr) (n c : Nat) (ts : List (List Int)) (w : World) (hr : RowsRd w A ts) (hn : n = ts.length) (h : Small ts) (hw : ∀ t ∈ ts, ∀ x ∈ t, 0 ≤ x ∧ x ≤ 255) :
    Calls Try.prog 11 #[.slice A n c] w fun e w' => ∃ (A1 : Option Addr) (c1 : Nat) (A2 : Option Addr) (c2 : Nat) (bs es : List Int), e = .returned (.tuple #[.slice A1 bs.length c1, .slice A2 es.length c2]) ∧ Aside0 (bs = laidB ts) ∧ Aside0 (es = endsB ts) ∧
      Aside0 (w'.ownsRow w.heap.size 5 1 (.slice A1 bs.length c1) bs.length (nums .u8 bs)) ∧ Aside0 (w'.ownsRow w.heap.size 3 1 (.slice A2 es.length c2) es.length (nums .i64 es)) ∧ Aside0 (Below w.heap.size w w') := by
  have HR := Aside0.mk hr
  have HS := Aside0.mk h
  have HN := Aside0.mk hn
  have HW := Aside0.mk hw
  have hn30 : n ≤ 30 := by rw [hn]; exact h.2
  clear hr h hn hw
  go_enter Try.func11, Try.ntmps11
  go_wp2_with fail
  go_loopw [4, 5, 6] (fun v1 v2 u wr => ∃ (i : Nat) (A1 : Option Addr) (c1 : Nat) (A2 : Option Addr) (c2 : Nat) (bs es : List Int), u = .int .i64 (i : Int) ∧ i ≤ n ∧ v1 = .slice A1 bs.length c1 ∧ v2 = .slice A2 es.length c2 ∧ Aside0 (bs = laidB (ts.take i)) ∧ Aside0 (es = endsB (ts.take i)) ∧ bs.length ≤ 90420 ∧ es.length ≤ i ∧
      Aside0 (wr.ownsRow w.heap.size 5 1 (.slice A1 bs.length c1) bs.length (nums .u8 bs)) ∧ Aside0 (wr.ownsRow w.heap.size 3 1 (.slice A2 es.length c2) es.length (nums .i64 es)) ∧ Aside0 (Below w.heap.size w wr)) (fun _ _ u _ => n - (intOf u).toNat)
  case atStart => exact ⟨0, none, 0, none, 0, [], [], rfl, by omega, rfl, rfl, ⟨by simp [laidB]⟩, ⟨by simp [endsB, endsF]⟩, by simp, by simp, ⟨own_nil _ _ _ _⟩, ⟨own_nil _ _ _ _⟩, ⟨Below.refl _ _⟩⟩
  case round =>
    obtain ⟨i, A1, c1, A2, c2, bs, es, rfl, hi, rfl, rfl, H1, H2, hbl, hel, HO1, HO2, HB⟩ := hrel
    by_cases hlt : i < n
    · have hits : i < ts.length := by have := HN.out; omega
      obtain ⟨ad, A3, c3, rfl, hcell, hr1, hc1⟩ := HR.out.2 i hits
      replace hcell := pw_cell_below HB.out hcell
      have hr1 := hr1.below HB.out
      obtain ⟨t, ht⟩ : ∃ t, ts.getD i [] = t := ⟨_, rfl⟩
      have htm : t ∈ ts := by rw [← ht]; exact getD_mem hits
      rw [ht] at hcell hr1 hc1
      have htl := HS.out.1 t htm
      have HTW := Aside0.mk (HW.out t htm)
      have HT := Aside0.mk ht
      have HR1 := Aside0.mk hr1
      have HL := Aside0.mk (show (laidB (ts.take (i + 1))).length ≤ 90420 from laidB_le _ ⟨fun u hu => HS.out.1 u (List.mem_of_mem_take hu), by have := HS.out.2; simp only [List.length_take]; omega⟩)
      clear ht hr1 htm
      by_cases h0 : 0 < t.length
      · have hne : t.isEmpty = false := by cases t with
          | nil => simp at h0
          | cons _ _ => rfl
        have HNE := Aside0.mk hne
        clear hne
        go_wp2_with fail
        refine (bytes_new A3 _ c3 t _ rfl HR1.out (by omega)).mono ?_
        rintro e w1 ⟨v, rfl, ho, hB1⟩
        obtain ⟨A4, c4, rfl, hr4⟩ := own_reads ho.out
        have HR4 := Aside0.mk hr4
        have HO1' := Aside0.mk (pw_own_below HO1.out hB1.out)
        have HO2' := Aside0.mk (pw_own_below HO2.out hB1.out)
        have HB1 := Aside0.mk (HB.out.trans (hB1.out.mono HB.out.size))
        clear hr4
        go_wp2_with fail
        refine (wput_yes A1 c1 bs A4 _ c4 t _ (own_reads' HO1'.out) (own_le HO1'.out) HR4.out rfl HTW.out h0 (by omega) (by omega)).mono ?_
        rintro e w2 ⟨v5, zs, rfl, hz, ho5, hB5⟩
        obtain ⟨A5, c5, rfl, hr5⟩ := own_reads ho5.out
        have HB5 := Aside0.mk (HB1.out.trans (hB5.out.mono HB1.out.size))
        have HO5 := Aside0.mk (own_less ho5.out HB1.out.size)
        have HO6 := Aside0.mk (pw_own_below HO2'.out hB5.out)
        have hzz : zs = laidB (ts.take (i + 1)) := by rw [hz.out, H1.out, take_succ_getD ts i hits, laidB_snoc, HT.out, HNE.out]; rfl
        have hzl : zs.length ≤ 90420 := by rw [hzz]; exact HL.out
        have HZ := Aside0.mk hzz
        clear hr5 hzz
        go_wp2_with (at_builtin; go_must (refine print_append_num (w0 := w) w.heap.size rfl _ _ 26 3 .i64 8 rfl Try.underlying26 info3 (by omega) _ es (zs.length : Int) rfl rfl (by exact HO6.out) (by exact HB5.out) (by exact HB5.out.size) (by omega) ?_); rintro v7 w7 ho7 hb7 hg7 _; have hkeep := own_other HO5.out hg7 (own_type_ne HO5.out HO6.out (by decide)); obtain ⟨es7, hes7⟩ : ∃ l, es ++ [(zs.length : Int)] = l := ⟨_, rfl⟩; rw [hes7] at ho7; obtain ⟨A7, c7, rfl⟩ := own_slice ho7; have HE7 := Aside0.mk hes7; clear hes7; have HK := Aside0.mk hkeep; have HO7 := Aside0.mk ho7; have HB7 := Aside0.mk hb7; clear ho7 hb7 hg7 hkeep)
        go_roundw
        case rel =>
          refine ⟨i + 1, A5, c5, A7, c7, zs, es7, by go_num, by omega, rfl, rfl, HZ, ⟨?_⟩, hzl, ?_, HK, HO7, HB7⟩
          · rw [← HE7.out, take_succ_getD ts i hits, endsB_snoc, HT.out, HNE.out, ← H2.out]
            have e1 : zs.length = (laidB (ts.take i)).length + (recB t).length := by rw [hz.out, List.length_append, ← H1.out]
            rw [e1]
            rfl
          · rw [← HE7.out]
            simp only [List.length_append, List.length_singleton]
            omega
        case measure => simp [intOf]; omega
      · have hem : t = [] := List.eq_nil_of_length_eq_zero (by omega)
        have HEM := Aside0.mk hem
        clear hem
        go_wp2
        go_roundw
        case rel =>
          refine ⟨i + 1, A1, c1, A2, c2, bs, es, by go_num, by omega, rfl, rfl, ⟨?_⟩, ⟨?_⟩, hbl, by omega, HO1, HO2, HB⟩
          · rw [take_succ_getD ts i hits, laidB_snoc, HT.out, HEM.out, H1.out]; simp
          · rw [take_succ_getD ts i hits, endsB_snoc, HT.out, HEM.out, H2.out]; simp
        case measure => simp [intOf]; omega
    · go_wp2
      go_ret2
      refine ⟨A1, c1, A2, c2, bs, es, rfl, ⟨?_⟩, ⟨?_⟩, HO1, HO2, HB⟩
      · rw [H1.out, List.take_of_length_le (by have := HN.out; omega)]
      · rw [H2.out, List.take_of_length_le (by have := HN.out; omega)]

/-- A literal's bytes, whatever mark their block bears. -/
theorem marked_reads (w : World) (e : TypeId) (xs : List Int) (fr : Nat × Nat) (hl : xs.length ≤ 9223372036854775807) :
    ReadsInt (w.alloc (.cells (nums .u8 xs).toArray e fr)) .u8 (some ⟨w.heap.size, 0, none⟩) xs.length xs := by
  refine ⟨rfl, hl, fun hp => ⟨_, rfl, fun j hj => ?_⟩⟩
  rw [add_plain, cell_of_row _ _ j _ e fr (heap_alloc_new w _)]
  simp [nums, List.getElem?_eq_getElem hj, List.getD_eq_getElem?_getD]

set_option maxHeartbeats 400000 in
theorem awake_any (w : World) :
    Calls Try.prog 10 #[] w fun e w' => e = .returned (.bool true) ∧ Below w.heap.size w w' := by
  have kc : (convert 25 25 (.slice (some ⟨w.heap.size, 0, none⟩) 1 1)).run Try.prog (w.alloc (.cells #[.int .u8 97] 5)) = .ok (.slice (some ⟨w.heap.size, 0, none⟩) 1 1) (w.alloc (.cells #[.int .u8 97] 5 (1, 2))) :=
    Lib.run_convert_bytes_const (P := Try.prog) w 25 5 _ 1 1 Try.underlying25 Try.underlying5
  have hl := Aside0.mk (marked_reads w 5 [97] (1, 2) (by decide))
  have hb0 := Aside0.mk (show Below w.heap.size w (w.alloc (.cells (nums .u8 [97]).toArray 5 (1, 2))) from (Below.refl _ _).alloc (Nat.le_refl _) _)
  go_enter Try.func10, Try.ntmps10
  go_wp2_with fail
  refine (wput_yes none 0 [] _ 1 1 [97] _ (nilReads _ _) (by decide) hl.out rfl (by decide) (by decide) (by decide) (by decide)).mono ?_
  rintro e w1 ⟨v, zs, rfl, hz, ho, hB⟩
  have hz6 : zs.length = 6 := by rw [hz.out]; decide +kernel
  obtain ⟨g, cap, rfl, hg, hg2⟩ := ho.out.form (by omega)
  have hca := (own_at ho.out 0 (by omega) (by omega)).1
  rw [Int.toNat_zero, show rd zs 0 = 1 from by rw [hz.out]; decide +kernel] at hca
  have HR := Aside0.mk (own_reads' ho.out)
  have HB := Aside0.mk (hb0.out.trans (hB.out.mono hb0.out.size))
  have HZ6 := Aside0.mk hz6
  have h6 : ((zs.length : Int) == 6) = true := by rw [beq_iff_eq]; omega
  have h06 : 0 < zs.length := by omega
  clear hz6 hg hg2
  go_wp2_with fail
  refine (records_any _ cap zs _ HR.out (own_le ho.out) (by have := HZ6.out; omega) (by rw [hz.out]; decide +kernel)).mono ?_
  rintro e w2 ⟨v2, rfl, hro, hB2⟩
  have hrec : recsF (zs.length + 1) zs 0 = ([[97]], 6) := by rw [hz.out]; decide +kernel
  rw [hrec] at hro ⊢
  obtain ⟨A2, c2, rfl⟩ := hro.slice
  replace hca := pw_cell_below hB2 hca
  have HB2 := Aside0.mk (HB.out.trans (hB2.mono HB.out.size))
  clear hB2 hro hrec
  go_wp2
  go_ret
  exact ⟨rfl, HB2.out⟩
end Go.Proofs.Ytkmhifacpkiefaa
