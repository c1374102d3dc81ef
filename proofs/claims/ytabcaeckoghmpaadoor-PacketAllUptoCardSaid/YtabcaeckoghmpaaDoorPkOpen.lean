/- A packet as an argument: laid open, and shut again. -/
import Derived.Test.YtabcaeckoghmpaaDoorPkAwake
import Derived.Lib.SmallJoins
import Derived.OpenShut
namespace Go.Proofs.YtabcaeckoghmpaaDoor
set_option linter.unusedVariables false
set_option linter.unusedSimpArgs false
open Go.RowKit Go.Proofs.YtabcaeckoghmpaaDoorW.PrintWords Go.ChangeShapes Go.WideShapes Go.ChangeAt

theorem array8 {α : Type} {cs : Array α} (h : cs.size = 8) : ∃ c0 c1 c2 c3 c4 c5 c6 c7, cs = #[c0, c1, c2, c3, c4, c5, c6, c7] := by
  obtain ⟨l⟩ := cs
  match l, h with
  | [c0, c1, c2, c3, c4, c5, c6, c7], _ => exact ⟨c0, c1, c2, c3, c4, c5, c6, c7, rfl⟩
theorem list8 {α : Type} {cs : List α} (h : cs.length = 8) : ∃ c0 c1 c2 c3 c4 c5 c6 c7, cs = [c0, c1, c2, c3, c4, c5, c6, c7] := by
  match cs, h with
  | [c0, c1, c2, c3, c4, c5, c6, c7], _ => exact ⟨c0, c1, c2, c3, c4, c5, c6, c7, rfl⟩
/-- What every packet's parts are within. -/
structure PkIn (x : Pk) : Prop where
  kind : -9223372036854775808 ≤ x.kind ∧ x.kind ≤ 9223372036854775807
  fr : -9223372036854775808 ≤ x.fr ∧ x.fr ≤ 9223372036854775807
  to_ : -9223372036854775808 ≤ x.to_ ∧ x.to_ ≤ 9223372036854775807
  id : -9223372036854775808 ≤ x.id ∧ x.id ≤ 9223372036854775807
  ver : -9223372036854775808 ≤ x.ver ∧ x.ver ≤ 9223372036854775807
  meth : x.meth.size ≤ 9223372036854775807
  err : -9223372036854775808 ≤ x.err ∧ x.err ≤ 9223372036854775807
  body : x.body.size ≤ 9223372036854775807

theorem open_pk {H : Type} {enc : TypeId × Value → H} {w : World} {base : Nat} {sp : Nat → Bool} {held : Bool} {r : Reach} {b0 : Nat} {v : Value} {d : DataW H} {p : List MemPlace}
    (hv : Value.okWide Tryd.prog w r b0 23 v) (h : DataW.Trod enc Tryd.prog w base sp held 23 v d p) :
    ∃ x : Pk, v = pkV x ∧ p = [] ∧ PkIn x ∧ ∀ (w' : World) (base' : Nat) (sp' : Nat → Bool) (held' : Bool), DataW.Trod enc Tryd.prog w' base' sp' held' 23 (pkV x) d [] := by
  have hs := Tryd.underlying23
  have k3 : Tryd.prog.cellsOf 3 = 1 := by kernel_rfl
  have k9 : Tryd.prog.cellsOf 9 = 1 := by kernel_rfl
  have k23 : Tryd.prog.cellsOf 23 = 8 := by kernel_rfl
  obtain ⟨cs, rfl, hsz⟩ := okWide_struct hs hv
  clear hv
  rw [k23] at hsz
  obtain ⟨c0, c1, c2, c3, c4, c5, c6, c7, rfl⟩ := array8 hsz
  obtain ⟨fuel, hf⟩ := h
  obtain ⟨xs, n, _, hx, hl, hlen, hfi⟩ := DataW.trod_struct hs hf
  obtain ⟨x0, x1, x2, x3, x4, x5, x6, x7, rfl⟩ := list8 (hlen.trans rfl)
  have h0 : DataW.trod enc Tryd.prog w base sp held n 3 [c0] = some x0 := by have := hfi 0 _ rfl; simpa [Value.cells, k3] using this
  have h1 : DataW.trod enc Tryd.prog w base sp held n 3 [c1] = some x1 := by have := hfi 1 _ rfl; simpa [Value.cells, k3] using this
  have h2 : DataW.trod enc Tryd.prog w base sp held n 3 [c2] = some x2 := by have := hfi 2 _ rfl; simpa [Value.cells, k3] using this
  have h3 : DataW.trod enc Tryd.prog w base sp held n 3 [c3] = some x3 := by have := hfi 3 _ rfl; simpa [Value.cells, k3] using this
  have h4 : DataW.trod enc Tryd.prog w base sp held n 3 [c4] = some x4 := by have := hfi 4 _ rfl; simpa [Value.cells, k3] using this
  have h5 : DataW.trod enc Tryd.prog w base sp held n 9 [c5] = some x5 := by have := hfi 5 _ rfl; simpa [Value.cells, k9] using this
  have h6 : DataW.trod enc Tryd.prog w base sp held n 3 [c6] = some x6 := by have := hfi 6 _ rfl; simpa [Value.cells, k3] using this
  have h7 : DataW.trod enc Tryd.prog w base sp held n 9 [c7] = some x7 := by have := hfi 7 _ rfl; simpa [Value.cells, k9] using this
  clear hfi hf hl hlen hsz
  obtain ⟨kind, e0, rfl, g0⟩ := DataW.trod_int Tryd.underlying3 h0
  obtain rfl := (List.cons.inj e0).1
  obtain ⟨fr, e1, rfl, g1⟩ := DataW.trod_int Tryd.underlying3 h1
  obtain rfl := (List.cons.inj e1).1
  obtain ⟨to_, e2, rfl, g2⟩ := DataW.trod_int Tryd.underlying3 h2
  obtain rfl := (List.cons.inj e2).1
  obtain ⟨id, e3, rfl, g3⟩ := DataW.trod_int Tryd.underlying3 h3
  obtain rfl := (List.cons.inj e3).1
  obtain ⟨ver, e4, rfl, g4⟩ := DataW.trod_int Tryd.underlying3 h4
  obtain rfl := (List.cons.inj e4).1
  obtain ⟨meth, e5, rfl, g5⟩ := DataW.trod_string Tryd.underlying9 h5
  obtain rfl := (List.cons.inj e5).1
  obtain ⟨err, e6, rfl, g6⟩ := DataW.trod_int Tryd.underlying3 h6
  obtain rfl := (List.cons.inj e6).1
  obtain ⟨body, e7, rfl, g7⟩ := DataW.trod_string Tryd.underlying9 h7
  obtain rfl := (List.cons.inj e7).1
  obtain ⟨rfl, rfl⟩ := Prod.mk.inj hx
  refine ⟨⟨kind, fr, to_, id, ver, meth, err, body⟩, rfl, rfl, ⟨bounds_i64 g0, bounds_i64 g1, bounds_i64 g2, bounds_i64 g3, bounds_i64 g4, g5, bounds_i64 g6, g7⟩, fun w' base' sp' held' => ?_⟩
  clear h0 h1 h2 h3 h4 h5 h6 h7 hx e0 e1 e2 e3 e4 e5 e6 e7
  have q0 : DataW.trod enc Tryd.prog w' base' sp' held' 1 3 [.int .i64 kind] = some (.lit (.int .i64 kind), []) := by simp [DataW.trod, Tryd.underlying3, g0]
  have q1 : DataW.trod enc Tryd.prog w' base' sp' held' 1 3 [.int .i64 fr] = some (.lit (.int .i64 fr), []) := by simp [DataW.trod, Tryd.underlying3, g1]
  have q2 : DataW.trod enc Tryd.prog w' base' sp' held' 1 3 [.int .i64 to_] = some (.lit (.int .i64 to_), []) := by simp [DataW.trod, Tryd.underlying3, g2]
  have q3 : DataW.trod enc Tryd.prog w' base' sp' held' 1 3 [.int .i64 id] = some (.lit (.int .i64 id), []) := by simp [DataW.trod, Tryd.underlying3, g3]
  have q4 : DataW.trod enc Tryd.prog w' base' sp' held' 1 3 [.int .i64 ver] = some (.lit (.int .i64 ver), []) := by simp [DataW.trod, Tryd.underlying3, g4]
  have q5 : DataW.trod enc Tryd.prog w' base' sp' held' 1 9 [.string meth] = some (.lit (.string meth.data.toList), []) := by simp [DataW.trod, Tryd.underlying9, g5]
  have q6 : DataW.trod enc Tryd.prog w' base' sp' held' 1 3 [.int .i64 err] = some (.lit (.int .i64 err), []) := by simp [DataW.trod, Tryd.underlying3, g6]
  have q7 : DataW.trod enc Tryd.prog w' base' sp' held' 1 9 [.string body] = some (.lit (.string body.data.toList), []) := by simp [DataW.trod, Tryd.underlying9, g7]
  have ts := trod_struct_mk (enc := enc) (w := w') (base := base') (spare := sp') (held := held') (n := 1) (cs := [.int .i64 kind, .int .i64 fr, .int .i64 to_, .int .i64 id, .int .i64 ver, .string meth, .int .i64 err, .string body]) (xs := [(.lit (.int .i64 kind), []), (.lit (.int .i64 fr), []), (.lit (.int .i64 to_), []), (.lit (.int .i64 id), []), (.lit (.int .i64 ver), []), (.lit (.string meth.data.toList), []), (.lit (.int .i64 err), []), (.lit (.string body.data.toList), [])]) hs (by rw [k23]; rfl) (by simp [k3, k9, q0, q1, q2, q3, q4, q5, q6, q7])
  exact ⟨2, by simpa [Value.cells, pkV] using ts⟩
end Go.Proofs.YtabcaeckoghmpaaDoor
