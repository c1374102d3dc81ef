/- The law WalZeros' walk. -/
import Derived.Test.YtkmhifacpkiefaaWBack
import Derived.Test.YtkmhifacpkiefaaPlace
import Derived.Test.YtkmhifacpkiefaaWZeros
namespace Go.Proofs.Ytkmhifacpkiefaa
set_option linter.unusedVariables false
set_option linter.unusedSimpArgs false
open Go.RowKit Go.Proofs.YtkmhifacpkiefaaW.PrintWords

section
variable {P : Program} {ops : Array Oper} {rest : List Oper} {o : Oper} {a : Act} {Q : Exit → Act → World → Prop}
/-- append(v, make([]byte, m)...): behind 'at_builtin'. -/
theorem append_zeros {w0 W : World} (base : Nat) (hgd : o.guard = none) (s x : Operand) (t ti e : TypeId) (ki : IntKind)
    (ho : o.op = .call { callee := .builtin .append, args := #[s, x], argTypes := #[t, ti] })
    (ht : P.underlying t = some (.slice e)) (hti : P.underlying ti = some (.int ki)) (hinfo : (P.info? e).map (fun i => (i.zero, i.size, i.bytes)) = some (some (.int .u8 0), 1, 1))
    (v : Value) (xs : List Int) (m : Nat) (hs : a.eval s = v) (hx : a.eval x = .int .i64 (m : Int))
    (HO : W.ownsRow base e 1 v xs.length (nums .u8 xs)) (HB : Below base w0 W) (hbase : base ≤ W.heap.size) (hl : xs.length + m ≤ 140737488355328)
    (h : ∀ v1 w1, w1.ownsRow base e 1 v1 (xs ++ List.replicate m 0).length (nums .u8 (xs ++ List.replicate m 0)) → Below base w0 w1 → wpList P ops Q rest (a.put o.dst v1) w1) :
    wpList P ops Q (o :: rest) a W := by
  obtain ⟨i0, hi, hzz⟩ := Option.map_eq_some_iff.1 hinfo
  simp only [Prod.mk.injEq] at hzz
  obtain ⟨hz0, hz1, hz2⟩ := hzz
  have hzl : (Builtin.zeroCells (Value.cells (.int .u8 0)) m).toList = nums .u8 (List.replicate m 0) := by
    apply List.ext_getElem
    · simp [nums, Builtin.zeroCells, Value.cells]
    · intro i h1 h2
      simp [nums, Builtin.zeroCells, Value.cells, Nat.mod_one]
  obtain ⟨v1, w1, hr, h2, h3, _⟩ := run_append_zeros (P := P) W base t ti o.type e i0 (.int .u8 0) 1 1 ht hti hi hz0 hz1 hz2 rfl (by omega) (by omega) v xs.length (nums .u8 xs) HO .i64 m
    (by intro u hu; rw [hzl] at hu; simp only [nums, List.mem_map] at hu; obtain ⟨q, _, rfl⟩ := hu; rfl) (by omega) hbase
  refine wpList_plain hgd fun K hK => ?_
  unfold Oper.wp execOp
  simp only [ho, resolve, invoke, builtin, Sem.run_bind, Sem.run_pure, Result.andThen_ok, List.map_toArray, List.map_cons, List.map_nil, hs, hx, hr]
  refine hK _ _ (h v1 w1 ?_ (HB.grown h3 hbase (own_base HO)))
  rw [hzl] at h2
  have e1 : nums .u8 xs ++ nums .u8 (List.replicate m 0) = nums .u8 (xs ++ List.replicate m 0) := by simp [nums]
  rw [e1] at h2
  simpa using h2
end

theorem zeros_out (A : Option Addr) (n c : Nat) (ts : List (List Int)) (a1 : Int) (A2 : Option Addr) (n2 c2 : Nat) (us : List (List Int)) (w : World) (hr : RowsRd w A ts) (hn : n = ts.length) (hr2 : RowsRd w A2 us) (hn2 : n2 = us.length) (h : ¬ Small ts ∨ ¬ Small us) :
    Calls Try.prog 5 #[.slice A n c, .int .i64 a1, .slice A2 n2 c2] w fun e w' => e = .returned (.bool true) ∧ Below w.heap.size w w' := by
  have HR := Aside0.mk hr
  have HN := Aside0.mk hn
  have HR2 := Aside0.mk hr2
  have HN2 := Aside0.mk hn2
  clear hr hn hr2 hn2
  by_cases h1 : Small ts
  · have h2 : ¬ Small us := by
      rcases h with h | h
      · exact absurd h1 h
      · exact h
    go_enter Try.func5, Try.ntmps5
    go_wp2_with fail
    refine (small_yes A n c ts _ HR.out HN.out h1).mono ?_
    rintro e w1 ⟨rfl, rfl⟩
    go_wp2_with fail
    refine (small_no A2 n2 c2 us _ HR2.out HN2.out h2).mono ?_
    rintro e w1 ⟨rfl, rfl⟩
    go_wp2_with fail
    refine (awake_any _).mono ?_
    rintro e w6 ⟨rfl, hB6⟩
    have HB6 := Aside0.mk hB6
    clear hB6
    go_wp2
    go_ret
    exact ⟨rfl, HB6.out⟩
  · go_enter Try.func5, Try.ntmps5
    go_wp2_with fail
    refine (small_no A n c ts _ HR.out HN.out h1).mono ?_
    rintro e w1 ⟨rfl, rfl⟩
    go_wp2_with fail
    refine (awake_any _).mono ?_
    rintro e w6 ⟨rfl, hB6⟩
    have HB6 := Aside0.mk hB6
    clear hB6
    go_wp2
    go_ret
    exact ⟨rfl, HB6.out⟩

set_option maxHeartbeats 1000000 in
theorem zeros_walk (A : Option Addr) (n c : Nat) (ts : List (List Int)) (a1 : Int) (A2 : Option Addr) (n2 c2 : Nat) (us : List (List Int)) (w : World) (hr : RowsRd w A ts) (hn : n = ts.length) (hr2 : RowsRd w A2 us) (hn2 : n2 = us.length) (h : Small ts) (h2 : Small us)
    (hw : ∀ t ∈ ts, ∀ x ∈ t, 0 ≤ x ∧ x ≤ 255) (hw2 : ∀ t ∈ us, ∀ x ∈ t, 0 ≤ x ∧ x ≤ 255) :
    Calls Try.prog 5 #[.slice A n c, .int .i64 a1, .slice A2 n2 c2] w fun e w' => e = .returned (.bool true) ∧ Below w.heap.size w w' := by
  have HR := Aside0.mk hr
  have HN := Aside0.mk hn
  have HR2 := Aside0.mk hr2
  have HN2 := Aside0.mk hn2
  have HS := Aside0.mk h
  have HS2 := Aside0.mk h2
  have HW := Aside0.mk hw
  have HW2 := Aside0.mk hw2
  have hlb := laidB_le ts h
  have hlb2 := laidB_le us h2
  clear hr hn hr2 hn2 h h2 hw hw2
  go_enter Try.func5, Try.ntmps5
  go_wp2_with fail
  refine (small_yes A n c ts _ HR.out HN.out HS.out).mono ?_
  rintro e w1 ⟨rfl, rfl⟩
  go_wp2_with fail
  refine (small_yes A2 n2 c2 us _ HR2.out HN2.out HS2.out).mono ?_
  rintro e w1 ⟨rfl, rfl⟩
  go_wp2_with fail
  refine (laid_any A n c ts _ HR.out HN.out HS.out HW.out).mono ?_
  rintro e w1 ⟨A3, c3, A4, c4, bs, es, rfl, hbs, hes, ho3, ho4, hB1⟩
  go_wp2_with fail
  refine (laid_any A2 n2 c2 us _ (HR2.out.below hB1.out) HN2.out HS2.out HW2.out).mono ?_
  rintro e w2 ⟨A5, c5, A6, c6, cs, fs, rfl, hcs, hfs, ho5, ho6, hB2⟩
  have HB2 := Aside0.mk (hB1.out.trans (hB2.out.mono hB1.out.size))
  have HBS := Aside0.mk (pw_own_below ho3.out hB2.out)
  have hbl : bs.length ≤ 90420 := by rw [hbs.out]; exact hlb
  have hcl : cs.length ≤ 90420 := by rw [hcs.out]; exact hlb2
  go_wp2_with fail
  refine (bytes_new A3 _ c3 bs _ rfl (own_reads' HBS.out) (by omega)).mono ?_
  rintro e w3 ⟨v, rfl, ho7, hB3⟩
  have HO7 := Aside0.mk ho7.out
  have HB3 := Aside0.mk hB3.out
  have HCS := Aside0.mk (own_reads' (pw_own_below ho5.out hB3.out))
  have HR3 := Aside0.mk (own_reads' ho5.out)
  go_wp2_with fail
  refine (place_new a1 40 _ (by omega) (by omega)).mono ?_
  rintro e w4 ⟨k, rfl, hk, rfl⟩
  have HCB := Aside0.mk hcs.out
  obtain ⟨m, hm⟩ : ∃ m, (ne ts).length = m := ⟨_, rfl⟩
  have hm30 : m ≤ 30 := by rw [← hm]; have h1 := ne_le ts; have h2 := HS.out.2; omega
  have hme : es.length = m := by rw [hes.out, endsB_length, hm]
  have HBSE := Aside0.mk hbs.out
  have HX := Aside0.mk (show recsF ((bs ++ List.replicate (1 + k) 0 ++ cs).length + 1) (bs ++ List.replicate (1 + k) 0 ++ cs) 0 = (ne ts, bs.length) by
    have h1 := recs_stop (ne ts) (ne_body ts HS.out) (List.replicate (1 + k) 0 ++ cs) (by
      rw [Nat.add_comm 1 k, List.replicate_succ, List.cons_append]
      exact next1_zero _ _)
    rw [← laidB_flat, ← HBSE.out, ← List.append_assoc] at h1
    exact h1)
  have HXB := Aside0.mk (show ∀ x ∈ bs ++ List.replicate (1 + k) 0 ++ cs, 0 ≤ x ∧ x ≤ 255 by
    intro x hx
    rcases List.mem_append.1 hx with hx | hx
    · rcases List.mem_append.1 hx with hx | hx
      · rw [HBSE.out] at hx; exact laid_bytes ts HW.out x hx
      · rw [(List.mem_replicate.1 hx).2]; omega
    · rw [HCB.out] at hx; exact laid_bytes us HW2.out x hx)
  have hxl : (bs ++ List.replicate (1 + k) 0).length = bs.length + (1 + k) := by simp
  obtain ⟨xs, hxs⟩ : ∃ xs, bs ++ List.replicate (1 + k) 0 = xs := ⟨_, rfl⟩
  rw [hxs] at hxl
  have HXS := Aside0.mk hxs
  clear hxs
  have hyl : (xs ++ cs).length = xs.length + cs.length := List.length_append
  obtain ⟨ys, hys⟩ : ∃ ys, xs ++ cs = ys := ⟨_, rfl⟩
  rw [hys] at hyl
  have HYS := Aside0.mk hys
  clear hys
  have HM := Aside0.mk hm
  clear hm
  have HME := Aside0.mk hme
  clear hme
  have HX2 := Aside0.mk (show recsF (ys.length + 1) ys 0 = (ne ts, bs.length) by have h1 := HX.out; rw [HXS.out, HYS.out] at h1; exact h1)
  have HXB2 := Aside0.mk (show ∀ x ∈ ys, 0 ≤ x ∧ x ≤ 255 by have h1 := HXB.out; rw [HXS.out, HYS.out] at h1; exact h1)
  have hyl2 : ys.length ≤ 1000000 := by omega
  have HXL := Aside0.mk hxl
  clear hxl hyl
  go_wp2_with (first
    | (at_builtin; (refine append_zeros (w0 := w2) w2.heap.size rfl (.tmp 34) (.tmp 37) 25 3 5 .i64 rfl Try.underlying25 Try.underlying3 info5 _ bs (1 + k) rfl (by simp [Act.eval]) HO7.out HB3.out HB3.out.size (by omega) ?_); rintro v8 w8 ho8 hb8; rw [HXS.out] at ho8; have HO8 := Aside0.mk ho8; have HB8 := Aside0.mk hb8; clear ho8 hb8)
    | (at_builtin; go_must (refine print_append_row (w0 := w2) w2.heap.size rfl (.tmp 38) (.tmp 39) 25 5 .u8 1 rfl Try.underlying25 info5 (by omega) _ xs cs A5 _ _ rfl rfl HO8.out (HR3.out.below HB8.out) HB8.out HB8.out.size (by have := HXL.out; omega) ?_); rintro v9 w9 ho9 hb9 _ _; rw [HYS.out] at ho9; have HO9 := Aside0.mk ho9; have HB9 := Aside0.mk hb9; clear ho9 hb9))
  obtain ⟨A8, c8, rfl, hr8⟩ := own_reads HO9.out
  have HR8 := Aside0.mk hr8
  clear hr8
  refine (records_new A8 _ c8 ys _ rfl HR8 (own_le HO9.out) hyl2 HXB2.out (ne ts) bs.length m HX2 HM (by omega)).mono ?_
  rintro e w10 ⟨A9, c9, rfl, hr10, hB10⟩
  have HB10 := Aside0.mk (HB2.out.trans (HB9.out.mono HB2.out.size))
  have HB11 := Aside0.mk (HB10.out.trans (hB10.out.mono HB10.out.size))
  have hmm2 : ((m : Int) == (es.length : Int)) = true := by rw [beq_iff_eq]; have := HME.out; omega
  go_wp2_with fail
  refine (awake_any _).mono ?_
  rintro e w12 ⟨rfl, hB12⟩
  have HB12 := Aside0.mk hB12
  clear hB12
  go_wp2
  go_ret
  exact ⟨rfl, HB11.out.trans (HB12.out.mono HB11.out.size)⟩
end Go.Proofs.Ytkmhifacpkiefaa
