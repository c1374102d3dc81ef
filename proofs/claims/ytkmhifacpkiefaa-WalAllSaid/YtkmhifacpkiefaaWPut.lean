/- wal.Put, wal.Size. -/
import Derived.Test.YtkmhifacpkiefaaWSums
namespace Go.Proofs.Ytkmhifacpkiefaa
set_option linter.unusedVariables false
set_option linter.unusedSimpArgs false
open Go.RowKit Go.Proofs.YtkmhifacpkiefaaW.PrintWords

section
variable {P : Program} {ops : Array Oper} {rest : List Oper} {o : Oper} {a : Act} {Q : Exit → Act → World → Prop}
/-- append(v, ys...), v without room, ys not empty: a new row. Behind 'at_builtin'. -/
theorem append_cut_row {W : World} (hgd : o.guard = none) (s x : Operand) (t e : TypeId) (k : IntKind) (bytes : Nat)
    (ho : o.op = .call { callee := .builtin .append, args := #[s, x], argTypes := #[t, t] })
    (ht : P.underlying t = some (.slice e)) (hinfo : (P.info? e).map (fun i => (i.zero, i.size, i.bytes)) = some (some (.int k 0), 1, bytes)) (hb0 : 0 < bytes)
    (A0 : Option Addr) (xs ys : List Int) (A : Option Addr) (m c : Nat) (hs : a.eval s = .slice A0 xs.length xs.length) (hx : a.eval x = .slice A m c) (hm : 0 < m)
    (HR0 : ReadsInt W k A0 xs.length xs) (HR : ReadsInt W k A m ys) (hl : (xs.length + m) * bytes ≤ 140737488355328)
    (h : ∀ v1 w1, w1.ownsRow W.heap.size e 1 v1 (xs ++ ys).length (nums k (xs ++ ys)) → Below W.heap.size W w1 → wpList P ops Q rest (a.put o.dst v1) w1) :
    wpList P ops Q (o :: rest) a W := by
  · obtain ⟨i0, hi, hzz⟩ := Option.map_eq_some_iff.1 hinfo
    simp only [Prod.mk.injEq] at hzz
    obtain ⟨hz0, hz1, hz2⟩ := hzz
    have hlen : xs.length + m ≤ 140737488355328 := Nat.le_trans (Nat.le_mul_of_pos_right _ hb0) hl
    obtain ⟨ad, rfl, hcell⟩ := HR.2.2 hm
    have cells : ∀ (B : Addr) (l : List Int), (∀ j, j < l.length → W.cell? (B.add j) = some (.int k (l.getD j 0))) → ∀ j u, (nums k l)[j]? = some u → W.cell? (B.add j) = some u := by
      intro B l hc j u hu
      have hj : j < l.length := by
        rcases Nat.lt_or_ge j l.length with h | h
        · exact h
        · simp [nums, List.getElem?_eq_none h] at hu
      rw [hc j hj]
      simp [nums, List.getElem?_eq_getElem hj] at hu
      subst hu
      simp [List.getD_eq_getElem?_getD, List.getElem?_eq_getElem hj]
    refine wpList_append_grows W hgd s x t ho e i0 (.int k 0) 1 bytes ht hi hz0 hz1 hz2 rfl (by omega) A0 xs.length xs.length (nums k xs) hs ?_ (by simp [nums]) ?_
      ad m c (nums k ys) hx (by simp [nums, HR.1]) (cells ad ys (fun j hj => hcell j (by have := HR.1; omega))) ?_ (by omega) (by simp only [maxLen]; omega) hl ?_
    · intro hn
      have : xs.length = 0 := by
        rcases Nat.eq_zero_or_pos xs.length with h0 | h0
        · exact h0
        · obtain ⟨ad, e1, _⟩ := HR0.2.2 h0
          rw [hn] at e1
          cases e1
      exact ⟨this, this⟩
    · intro b hb
      refine cells b xs ?_
      intro j hj
      obtain ⟨ad', e1, hc⟩ := HR0.2.2 (by omega)
      rw [hb] at e1
      cases e1
      exact hc j hj
    · intro u hu
      simp only [nums, List.mem_map] at hu
      obtain ⟨q, _, rfl⟩ := hu
      rfl
    · intro v1 w1 hown hg
      refine h v1 w1 ?_ ((Below.refl _ _).grown hg (Nat.le_refl _) (by intro k hk; cases hk))
      have hown' := hown
      have e1 : nums k xs ++ nums k ys = nums k (xs ++ ys) := by simp [nums]
      rw [e1] at hown'
      simpa [HR.1] using hown'
end

/-- A record: how long the body is, the sum, the body. -/
def recB (ys : List Int) : List Int := enc 10 ys.length ++ low4 (crcF (crcF 0 (enc 10 ys.length)) ys) ++ ys

theorem low4_length (s : Nat) : (low4 s).length = 4 := rfl
theorem low4_bytes (s : Nat) : ∀ x ∈ low4 s, 0 ≤ x ∧ x ≤ 255 := by
  intro x h
  simp only [low4, List.mem_cons, List.not_mem_nil, or_false] at h
  omega
theorem recB_bytes (ys : List Int) (hw : ∀ x ∈ ys, 0 ≤ x ∧ x ≤ 255) : ∀ x ∈ recB ys, 0 ≤ x ∧ x ≤ 255 := by
  intro x h
  simp only [recB, List.mem_append] at h
  rcases h with (h | h) | h
  · exact enc_bytes 10 _ x h
  · exact low4_bytes _ x h
  · exact hw x h

set_option maxHeartbeats 400000 in
theorem wput_yes (A : Option Addr) (c : Nat) (xs : List Int) (A2 : Option Addr) (n2 c2 : Nat) (ys : List Int) (w : World) (hr : ReadsInt w .u8 A xs.length xs) (hc : xs.length ≤ c)
    (hr2 : ReadsInt w .u8 A2 n2 ys) (hn2 : n2 = ys.length) (hw2 : ∀ x ∈ ys, 0 ≤ x ∧ x ≤ 255) (h1 : 1 ≤ n2) (h2 : n2 ≤ 16384) (hl : xs.length + 20000 ≤ 140737488355328) :
    Calls Try.prog 15 #[.slice A xs.length c, .slice A2 n2 c2] w fun e w' => ∃ (v' : Value) (zs : List Int), e = .returned (.tuple #[v', .bool true]) ∧ Aside0 (zs = xs ++ recB ys) ∧ Aside0 (w'.ownsRow w.heap.size 5 1 v' zs.length (nums .u8 zs)) ∧ Aside0 (Below w.heap.size w w') := by
  have HR := Aside0.mk hr
  have HR2 := Aside0.mk hr2
  have HW2 := Aside0.mk hw2
  have HN := Aside0.mk hn2
  have LL := Aside0.mk (show ∀ s l, 0 ≤ ((crcF s l : Nat) : Int) ∧ ((crcF s l : Nat) : Int) < 4294967296 from fun s l => by have := crcF_lt s l; omega)
  have hwr : IntKind.u64.wrap (n2 : Int) = n2 := wraps_u64 _ (by omega) (by omega)
  clear hr hr2 hw2 hn2
  go_enter Try.func15, Try.ntmps15
  go_wp2_with fail
  refine (may_yes n2 _ (by omega) (by omega)).mono ?_
  rintro e w1 ⟨rfl, rfl⟩
  go_wp2_with fail
  refine (vput_int none 0 [] n2 _ (nilReads _ _) (by decide) (by omega) (by omega) (by decide)).mono ?_
  rintro e w1 ⟨v1, hs, rfl, hh, ho1, hB1⟩
  obtain ⟨A3, c3, rfl, hr3⟩ := own_reads ho1.out
  have hh' : hs = enc 10 n2 := by rw [hh.out, Int.toNat_natCast]; rfl
  have hp0 : 0 < hs.length := by rw [hh']; exact enc_length_pos 9 _
  have hp1 : hs.length ≤ 10 := by rw [hh']; exact enc_length_le 10 _
  have HH := Aside0.mk hh'
  have HR3 := Aside0.mk hr3
  have HX1 := Aside0.mk (HR.out.below hB1.out)
  clear hh' hr3 hh
  go_wp2_with (at_builtin; go_must (refine append_cut_row rfl _ _ 25 5 .u8 1 rfl Try.underlying25 info5 (by omega) _ xs hs _ _ _ rfl rfl hp0 HX1.out HR3.out (by omega) ?_); rintro v4 w4 ho4 hb4; have HO4 := Aside0.mk ho4; have HB4 := Aside0.mk hb4; clear ho4 hb4)
  have HR5 := Aside0.mk (HR3.out.below HB4.out)
  have HB5 := Aside0.mk (hB1.out.trans (HB4.out.mono hB1.out.size))
  have HO5 := Aside0.mk (own_less HO4.out hB1.out.size)
  go_wp2_with fail
  refine (cof_new A3 _ c3 hs _ rfl HR5.out (by rw [HH.out]; exact enc_bytes 10 _)).mono ?_
  rintro e w5 ⟨r1, rfl, hr1, rfl⟩
  go_wp2_with fail
  refine (cmore_new A2 n2 c2 r1 ys _ HN.out (HR2.out.below HB5.out) (by rw [hr1.out]; exact (LL.out _ _).1) (by rw [hr1.out]; exact (LL.out _ _).2) HW2.out).mono ?_
  rintro e w5 ⟨r2, rfl, hr2, rfl⟩
  go_wp2_with fail
  refine (sums_new r2 _ (by rw [hr2.out]; exact (LL.out _ _).1) (by rw [hr2.out]; exact (LL.out _ _).2)).mono ?_
  rintro e w6 ⟨v6, rfl, ho6, hB6⟩
  obtain ⟨A6, c6, rfl, hr6⟩ := own_reads ho6.out
  have HR6 := Aside0.mk hr6
  have HO6 := Aside0.mk (pw_own_below HO5.out hB6.out)
  have HB6 := Aside0.mk (HB5.out.trans (hB6.out.mono HB5.out.size))
  clear hr6
  obtain ⟨t1, ht1⟩ : ∃ t, xs ++ hs = t := ⟨_, rfl⟩
  rw [ht1] at HO6
  have ht1l : t1.length ≤ xs.length + 10 := by rw [← ht1, List.length_append]; omega
  have HT1 := Aside0.mk ht1
  clear ht1
  go_wp2_with (first
    | (at_builtin; (refine print_append_row (w0 := w) w.heap.size rfl (.tmp 25) (.tmp 30) 25 5 .u8 1 rfl Try.underlying25 info5 (by omega) _ t1 (low4 r2.toNat) _ 4 _ rfl rfl HO6.out HR6.out HB6.out HB6.out.size (by omega) ?_); rintro v7 w7 ho7 hb7 _ _; obtain ⟨t2, ht2⟩ : ∃ t, t1 ++ low4 r2.toNat = t := ⟨_, rfl⟩; rw [ht2] at ho7; have ht2l : t2.length ≤ xs.length + 14 := (by rw [← ht2, List.length_append, low4_length]; omega); have HT2 := Aside0.mk ht2; have HO7 := Aside0.mk ho7; have HB7 := Aside0.mk hb7; clear ho7 hb7 ht2)
    | (at_builtin; go_must (refine print_append_row (w0 := w) w.heap.size rfl (.tmp 32) (.tmp 33) 25 5 .u8 1 rfl Try.underlying25 info5 (by omega) _ t2 ys A2 n2 _ rfl rfl HO7.out (HR2.out.below HB7.out) HB7.out HB7.out.size (by omega) ?_); rintro v8 w8 ho8 hb8 _ _; have HO8 := Aside0.mk ho8; have HB8 := Aside0.mk hb8; clear ho8 hb8)
    | fail)
  go_ret2
  refine ⟨_, _, rfl, ⟨?_⟩, HO8, HB8⟩
  rw [← HT2.out, ← HT1.out, recB, hr2.out, hr1.out, HH.out, HN.out]
  simp only [Int.toNat_natCast, List.append_assoc]

theorem wput_no (A : Option Addr) (n c : Nat) (A2 : Option Addr) (n2 c2 : Nat) (w : World) (h : n2 < 1 ∨ 16384 < n2) (hm : n2 ≤ 9223372036854775807) :
    Calls Try.prog 15 #[.slice A n c, .slice A2 n2 c2] w fun e w' => e = .returned (.tuple #[.slice A n c, .bool false]) ∧ w = w' := by
  have HM := Aside0.mk hm
  clear hm
  go_enter Try.func15, Try.ntmps15
  go_wp2_with fail
  refine (may_no n2 _ (by omega)).mono ?_
  rintro e w1 ⟨rfl, rfl⟩
  go_wp2
  go_ret2
  exact ⟨rfl, rfl⟩

theorem size_no (n : Int) (w : World) (h : n < 1 ∨ 16384 < n) :
    Calls Try.prog 18 #[.int .i64 n] w fun e w' => e = .returned (.int .i64 0) ∧ w = w' := by
  go_enter Try.func18, Try.ntmps18
  go_wp2_with fail
  refine (may_no n _ (by omega)).mono ?_
  rintro e w1 ⟨rfl, rfl⟩
  go_wp2
  go_ret
  exact ⟨rfl, rfl⟩

theorem size_yes (n : Nat) (w : World) (h1 : 1 ≤ n) (h2 : n ≤ 16384) :
    Calls Try.prog 18 #[.int .i64 (n : Int)] w fun e w' => ∃ m : Nat, e = .returned (.int .i64 (m : Int)) ∧ Aside0 (m = (enc 10 n).length + 4 + n) ∧ Aside0 (Below w.heap.size w w') := by
  have hwr : IntKind.u64.wrap (n : Int) = n := wraps_u64 _ (by omega) (by omega)
  go_enter Try.func18, Try.ntmps18
  go_wp2_with fail
  refine (may_yes n _ (by omega) (by omega)).mono ?_
  rintro e w1 ⟨rfl, rfl⟩
  go_wp2_with fail
  refine (vlen_new n _ (by omega) (by omega)).mono ?_
  rintro e w1 ⟨m, rfl, hm, hB⟩
  have hm2 : m ≤ 10 := by rw [hm.out]; exact enc_length_le 10 _
  go_wp2
  go_ret
  exact ⟨m + 4 + n, by go_num, ⟨by rw [hm.out, Int.toNat_natCast]⟩, hB⟩
end Go.Proofs.Ytkmhifacpkiefaa
