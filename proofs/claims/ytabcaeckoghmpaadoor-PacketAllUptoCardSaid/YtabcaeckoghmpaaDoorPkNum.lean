/- packet.in, packet.number. -/
import Derived.Test.YtabcaeckoghmpaaDoorPkPure
namespace Go.Proofs.YtabcaeckoghmpaaDoor
set_option linter.unusedVariables false
set_option linter.unusedSimpArgs false
open Go.RowKit Go.Proofs.YtabcaeckoghmpaaDoorW.PrintWords

theorem pin_any (r a b : Int) (v : Bool) (w : World) (hv : Aside0 (inF r a b = v)) : Calls Tryd.prog 28 #[.int .i64 r, .int .i64 a, .int .i64 b] w fun e w' => e = .returned (.bool v) ∧ w = w' := by
  have h := hv.out
  rw [inF] at h
  by_cases h1 : a ≤ r
  · by_cases h2 : r ≤ b
    · rw [decide_eq_true h1, decide_eq_true h2] at h
      subst h
      clear hv
      go_enter Tryd.func28, Tryd.ntmps28
      go_wp2
      go_ret
      exact ⟨rfl, rfl⟩
    · rw [decide_eq_true h1, decide_eq_false h2] at h
      subst h
      clear hv
      go_enter Tryd.func28, Tryd.ntmps28
      go_wp2
      go_ret
      exact ⟨rfl, rfl⟩
  · rw [decide_eq_false h1] at h
    subst h
    clear hv
    go_enter Tryd.func28, Tryd.ntmps28
    go_wp2
    go_ret
    exact ⟨rfl, rfl⟩

set_option maxRecDepth 100000 in
set_option maxHeartbeats 1000000 in
theorem number_any (v : Nat) (w : World) (hv : v < 4294967296) (L : List Int) (hL : Aside0 (le4 v = L)) : Calls Tryd.prog 19 #[.int .i64 (v : Int)] w fun e w' => ∃ v', e = .returned v' ∧ Aside0 (w'.ownsRow w.heap.size 5 1 v' 4 (nums .u8 L)) ∧ Aside0 (Below w.heap.size w w') := by
  go_enter Tryd.func19, Tryd.ntmps19
  have hle : le4 v = [(v : Int) % 256, (v : Int) / 256 % 256, (v : Int) / 65536 % 256, (v : Int) / 16777216] := by
    simp only [le4, List.cons.injEq, and_true]
    omega
  have HLE := Aside0.mk hle
  clear hle
  go_wp2
  go_ret
  refine ⟨_, rfl, ⟨?_⟩, ⟨(Below.refl _ _).alloc (Nat.le_refl _) _⟩⟩
  rw [← hL.out, HLE.out]
  exact own_lit w w.heap.size 5 .u8 [(v : Int) % 256, (v : Int) / 256 % 256, (v : Int) / 65536 % 256, (v : Int) / 16777216] (Nat.le_refl _) (by simp)
theorem str_empty (s : ByteArray) (b : Bool) (h : decide (s.size = 0) = b) : (s.toList == []) = b := by
  rw [ByteArray.toList_eq, ← h]
  have e : s.data.toList.length = s.size := Array.length_toList
  cases hl : s.data.toList with
  | nil => rw [hl] at e; simp at e; simp [e.symm]
  | cons x l => rw [hl] at e; simp at e; simp [e.symm]

/-- A packet's value. -/
def pkC (p : Pk) : Array Value := #[.int .i64 p.kind, .int .i64 p.fr, .int .i64 p.to_, .int .i64 p.id, .int .i64 p.ver, .string p.meth, .int .i64 p.err, .string p.body]

set_option maxRecDepth 100000 in
set_option maxHeartbeats 4000000 in
theorem check_at (kind fr to_ id ver : Int) (meth : ByteArray) (err : Int) (body : ByteArray) (w : World) (hm : meth.size ≤ 4611686018427387904) (hbz : body.size ≤ 4611686018427387904) (hT : Tabs w) (v : Bool) (hv : Aside0 (pkOk ⟨kind, fr, to_, id, ver, meth, err, body⟩ = v)) :
    Calls Tryd.prog 15 #[.agg #[.int .i64 kind, .int .i64 fr, .int .i64 to_, .int .i64 id, .int .i64 ver, .string meth, .int .i64 err, .string body]] w fun e w' => e = .returned (.bool v) ∧ Below w.heap.size w w' := by
  have HT := Aside0.mk hT
  clear hT
  obtain ⟨b1, hb1⟩ : ∃ b, inF kind 1 4 = b := ⟨_, rfl⟩
  obtain ⟨b2, hb2⟩ : ∃ b, inF fr 0 255 = b := ⟨_, rfl⟩
  obtain ⟨b3, hb3⟩ : ∃ b, inF to_ 0 255 = b := ⟨_, rfl⟩
  obtain ⟨b4, hb4⟩ : ∃ b, inF id 0 4294967295 = b := ⟨_, rfl⟩
  obtain ⟨b5, hb5⟩ : ∃ b, inF ver 0 12 = b := ⟨_, rfl⟩
  obtain ⟨b6, hb6⟩ : ∃ b, decide (meth.size = 0) = b := ⟨_, rfl⟩
  obtain ⟨b7, hb7⟩ : ∃ b, nameG meth = b := ⟨_, rfl⟩
  obtain ⟨b8, hb8⟩ : ∃ b, inF err 0 255 = b := ⟨_, rfl⟩
  obtain ⟨b9, hb9⟩ : ∃ b, decide (body.size ≤ 4096) = b := ⟨_, rfl⟩
  have hb9i : decide ((body.size : Int) ≤ 4096) = b9 := by rw [← hb9]; exact decide_eq_decide.2 (by omega)
  have HV : Aside0 ((b1 && (b2 && (b3 && (b4 && (b5 && ((b6 || b7) && (b8 && b9))))))) = v) := ⟨by rw [← hv.out, ← hb1, ← hb2, ← hb3, ← hb4, ← hb5, ← hb6, ← hb7, ← hb8, ← hb9]; rfl⟩
  have e6 := str_empty meth b6 hb6
  have H1 := Aside0.mk hb1; have H2 := Aside0.mk hb2; have H3 := Aside0.mk hb3; have H4 := Aside0.mk hb4; have H5 := Aside0.mk hb5; have H7 := Aside0.mk hb7; have H8 := Aside0.mk hb8
  clear hv hb1 hb2 hb3 hb4 hb5 hb6 hb7 hb8
  have HB0 : Aside0 (Below w.heap.size w (w.alloc (.cells #[.int .i64 kind, .int .i64 fr, .int .i64 to_, .int .i64 id, .int .i64 ver, .string meth, .int .i64 err, .string body] 23))) := ⟨(Below.refl _ _).alloc (Nat.le_refl _) _⟩
  go_enter Tryd.func15, Tryd.ntmps15
  go_wp2_with fail
  refine (pin_any kind 1 4 b1 _ H1).mono ?_
  rintro e w1 ⟨rfl, rfl⟩
  cases b1 with
  | false =>
    have hvf : v = false := by rw [← HV.out]; simp
    subst hvf
    go_wp2
    go_ret
    exact ⟨rfl, HB0.out⟩
  | true =>
    go_wp2_with fail
    refine (pin_any fr 0 255 b2 _ H2).mono ?_
    rintro e w1 ⟨rfl, rfl⟩
    cases b2 with
    | false =>
      have hvf : v = false := by rw [← HV.out]; simp
      subst hvf
      go_wp2
      go_ret
      exact ⟨rfl, HB0.out⟩
    | true =>
      go_wp2_with fail
      refine (pin_any to_ 0 255 b3 _ H3).mono ?_
      rintro e w1 ⟨rfl, rfl⟩
      cases b3 with
      | false =>
        have hvf : v = false := by rw [← HV.out]; simp
        subst hvf
        go_wp2
        go_ret
        exact ⟨rfl, HB0.out⟩
      | true =>
        go_wp2_with fail
        refine (pin_any id 0 4294967295 b4 _ H4).mono ?_
        rintro e w1 ⟨rfl, rfl⟩
        cases b4 with
        | false =>
          have hvf : v = false := by rw [← HV.out]; simp
          subst hvf
          go_wp2
          go_ret
          exact ⟨rfl, HB0.out⟩
        | true =>
          go_wp2_with fail
          refine (pin_any ver 0 12 b5 _ H5).mono ?_
          rintro e w1 ⟨rfl, rfl⟩
          cases b5 with
          | false =>
            have hvf : v = false := by rw [← HV.out]; simp
            subst hvf
            go_wp2
            go_ret
            exact ⟨rfl, HB0.out⟩
          | true =>
            cases b6 with
            | true =>
              go_wp2_with fail
              refine (pin_any err 0 255 b8 _ H8).mono ?_
              rintro e w9 ⟨rfl, rfl⟩
              cases b8 with
              | false =>
                have hvf : v = false := by rw [← HV.out]; simp
                subst hvf
                go_wp2
                go_ret
                exact ⟨rfl, HB0.out⟩
              | true =>
                have hvf : v = b9 := by rw [← HV.out]; simp
                subst hvf
                go_wp2
                go_ret
                exact ⟨rfl, HB0.out⟩
            | false =>
              go_wp2_with fail
              refine (name_any meth _ hm (tabs_below HT.out HB0.out) b7 H7).mono ?_
              rintro e w2 ⟨rfl, hB2⟩
              have c6 := pw_cell_below hB2 (blk_cell (heap_alloc_new w (.cells #[.int .i64 kind, .int .i64 fr, .int .i64 to_, .int .i64 id, .int .i64 ver, .string meth, .int .i64 err, .string body] 23)) 6)
              have c7 := pw_cell_below hB2 (blk_cell (heap_alloc_new w (.cells #[.int .i64 kind, .int .i64 fr, .int .i64 to_, .int .i64 id, .int .i64 ver, .string meth, .int .i64 err, .string body] 23)) 7)
              replace c6 : w2.cell? ⟨w.heap.size, 6, none⟩ = some (.int .i64 err) := c6
              replace c7 : w2.cell? ⟨w.heap.size, 7, none⟩ = some (.string body) := c7
              have HB2 := Aside0.mk (HB0.out.trans (hB2.mono HB0.out.size))
              clear hB2
              cases b7 with
              | false =>
                have hvf : v = false := by rw [← HV.out]; simp
                subst hvf
                go_wp2
                go_ret
                exact ⟨rfl, HB2.out⟩
              | true =>
                go_wp2_with fail
                refine (pin_any err 0 255 b8 _ H8).mono ?_
                rintro e w9 ⟨rfl, rfl⟩
                cases b8 with
                | false =>
                  have hvf : v = false := by rw [← HV.out]; simp
                  subst hvf
                  go_wp2
                  go_ret
                  exact ⟨rfl, HB2.out⟩
                | true =>
                  have hvf : v = b9 := by rw [← HV.out]; simp
                  subst hvf
                  go_wp2
                  go_ret
                  exact ⟨rfl, HB2.out⟩
end Go.Proofs.YtabcaeckoghmpaaDoor
