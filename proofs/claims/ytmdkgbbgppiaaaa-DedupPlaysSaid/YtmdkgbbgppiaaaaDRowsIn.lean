/- Slices of truths and of packets that come in. -/
import Derived.Test.YtmdkgbbgppiaaaaDPlays
import Derived.Deep.Slices
import Derived.Lib.SmallJoins
import Derived.OpenShut
namespace Go.Proofs.Ytmdkgbbgppiaaaa
set_option linter.unusedVariables false
set_option linter.unusedSimpArgs false
open Go.RowKit Go.Deep Go.Proofs.YtmdkgbbgppiaaaaW.PrintWords Go.ChangeShapes Go.WideShapes Go.ChangeAt

theorem list8 {α : Type} {cs : List α} (h : cs.length = 8) : ∃ c0 c1 c2 c3 c4 c5 c6 c7, cs = [c0, c1, c2, c3, c4, c5, c6, c7] := by
  match cs, h with
  | [c0, c1, c2, c3, c4, c5, c6, c7], _ => exact ⟨c0, c1, c2, c3, c4, c5, c6, c7, rfl⟩
theorem pk_cells {H : Type} {enc : TypeId × Value → H} {w : World} {base : Nat} {sp : Nat → Bool} {held : Bool} {fuel : Nat} {cs : List Value} {d : DataW H × List MemPlace}
    (hl8 : cs.length = 8) (hf : DataW.trod enc Try.prog w base sp held fuel 28 cs = some d) : ∃ x : Pk, cs = pkL x ∧ x.body.size ≤ 9223372036854775807 := by
  have hs := Try.underlying28
  have k3 : Try.prog.cellsOf 3 = 1 := by kernel_rfl
  have k9 : Try.prog.cellsOf 9 = 1 := by kernel_rfl
  obtain ⟨c0, c1, c2, c3, c4, c5, c6, c7, rfl⟩ := list8 hl8
  obtain ⟨xs, n, _, hx, hl, hlen, hfi⟩ := DataW.trod_struct hs hf
  obtain ⟨x0, x1, x2, x3, x4, x5, x6, x7, rfl⟩ := list8 (hlen.trans rfl)
  have h0 : DataW.trod enc Try.prog w base sp held n 3 [c0] = some x0 := by have := hfi 0 _ rfl; simpa [k3] using this
  have h1 : DataW.trod enc Try.prog w base sp held n 3 [c1] = some x1 := by have := hfi 1 _ rfl; simpa [k3] using this
  have h2 : DataW.trod enc Try.prog w base sp held n 3 [c2] = some x2 := by have := hfi 2 _ rfl; simpa [k3] using this
  have h3 : DataW.trod enc Try.prog w base sp held n 3 [c3] = some x3 := by have := hfi 3 _ rfl; simpa [k3] using this
  have h4 : DataW.trod enc Try.prog w base sp held n 3 [c4] = some x4 := by have := hfi 4 _ rfl; simpa [k3] using this
  have h5 : DataW.trod enc Try.prog w base sp held n 9 [c5] = some x5 := by have := hfi 5 _ rfl; simpa [k9] using this
  have h6 : DataW.trod enc Try.prog w base sp held n 3 [c6] = some x6 := by have := hfi 6 _ rfl; simpa [k3] using this
  have h7 : DataW.trod enc Try.prog w base sp held n 9 [c7] = some x7 := by have := hfi 7 _ rfl; simpa [k9] using this
  clear hfi hf hl hlen hl8
  obtain ⟨kind, e0, rfl, g0⟩ := DataW.trod_int Try.underlying3 h0
  obtain rfl := (List.cons.inj e0).1
  obtain ⟨fr, e1, rfl, g1⟩ := DataW.trod_int Try.underlying3 h1
  obtain rfl := (List.cons.inj e1).1
  obtain ⟨to_, e2, rfl, g2⟩ := DataW.trod_int Try.underlying3 h2
  obtain rfl := (List.cons.inj e2).1
  obtain ⟨id, e3, rfl, g3⟩ := DataW.trod_int Try.underlying3 h3
  obtain rfl := (List.cons.inj e3).1
  obtain ⟨ver, e4, rfl, g4⟩ := DataW.trod_int Try.underlying3 h4
  obtain rfl := (List.cons.inj e4).1
  obtain ⟨meth, e5, rfl, g5⟩ := DataW.trod_string Try.underlying9 h5
  obtain rfl := (List.cons.inj e5).1
  obtain ⟨err, e6, rfl, g6⟩ := DataW.trod_int Try.underlying3 h6
  obtain rfl := (List.cons.inj e6).1
  obtain ⟨body, e7, rfl, g7⟩ := DataW.trod_string Try.underlying9 h7
  obtain rfl := (List.cons.inj e7).1
  exact ⟨⟨kind, fr, to_, id, ver, meth, err, body⟩, rfl, g7⟩
theorem getD_map_range2 {α : Type} {n : Nat} {f : Nat → α} {z : α} {j : Nat} (h : j < n) : ((List.range n).map f).getD j z = f j := by
  rw [List.getD_eq_getElem?_getD, List.getElem?_map, List.getElem?_range h]
  rfl
theorem open_bools {H : Type} {enc : TypeId × Value → H} {W : World} {base : Nat} {held : Bool} {a : Option Addr} {len cap : Nat} {d : DataW H} {ps : List MemPlace}
    (h : DataW.Trod enc Try.prog W base (fun _ => true) held 39 (.slice a len cap) d ps) :
    ∃ bs : List Bool, BoolsIn W a bs.length bs ∧ len = bs.length ∧ bs.length ≤ 9223372036854775807 := by
  obtain ⟨fuel, hf⟩ := h
  rcases open_slice1 Try.underlying39 (by kernel_rfl) hf with ⟨hcs, _⟩ | ⟨x, l, c, m, n, V, D, Pl, hcs, _, hl, hm, hmm, _, hr⟩
  · simp [Value.cells] at hcs
    obtain ⟨rfl, rfl, rfl⟩ := hcs
    exact ⟨[], ⟨rfl, by simp, fun hj => by simp at hj⟩, rfl, by simp⟩
  · simp [Value.cells] at hcs
    obtain ⟨rfl, rfl, rfl⟩ := hcs
    have each : ∀ r, ∃ b : Bool, r < len → W.cell? (x.add r) = some (.bool b) := by
      intro r
      by_cases hlt : r < len
      · obtain ⟨h1, h2⟩ := hr r (by rw [hmm]; simp only [if_true]; omega)
        obtain ⟨b, e, _⟩ := DataW.trod_bool Try.underlying4 h2
        exact ⟨b, fun _ => by rw [h1, (List.cons.inj e).1]⟩
      · exact ⟨false, fun h => absurd h hlt⟩
    have hlm : len ≤ 9223372036854775807 := by unfold maxLen at hm; omega
    refine ⟨(List.range len).map fun r => (each r).choose, ⟨rfl, by simpa using hlm, fun _ => ⟨x, rfl, fun j hj => ?_⟩⟩, by simp, by simpa using hlm⟩
    rw [List.length_map, List.length_range] at hj
    rw [getD_map_range2 hj]
    exact (each j).choose_spec hj
theorem open_pks {H : Type} {enc : TypeId × Value → H} {W : World} {base : Nat} {held : Bool} {a : Option Addr} {len cap : Nat} {d : DataW H} {ps : List MemPlace}
    (h : DataW.Trod enc Try.prog W base (fun _ => true) held 40 (.slice a len cap) d ps) :
    ∃ xs : List Pk, PksIn W a xs.length xs ∧ len = xs.length ∧ xs.length ≤ 9223372036854775807 := by
  obtain ⟨fuel, hf⟩ := h
  have k8 : Try.prog.cellsOf 28 = 8 := by kernel_rfl
  rcases open_slice Try.underlying40 hf with ⟨hcs, _⟩ | ⟨x, l, c, m, n, D, Pl, hcs, _, hl, hm, hmm, _, hr⟩
  · simp [Value.cells] at hcs
    obtain ⟨rfl, rfl, rfl⟩ := hcs
    exact ⟨[], ⟨⟨rfl, by simp, fun hj => by simp at hj⟩, by simp⟩, rfl, by simp⟩
  · simp [Value.cells] at hcs
    obtain ⟨rfl, rfl, rfl⟩ := hcs
    rw [k8] at hr
    have each : ∀ r, ∃ q : Pk, (r < len → ∀ i u, (pkL q)[i]? = some u → W.cell? (x.add (r * 8 + i)) = some u) ∧ q.body.size ≤ 9223372036854775807 := by
      intro r
      by_cases hlt : r < len
      · obtain ⟨cs', h1, h2⟩ := hr r (by rw [hmm]; simp only [if_true]; omega)
        obtain ⟨_, hlen, hc⟩ := World.cells?_some h1
        obtain ⟨q, rfl, hb⟩ := pk_cells hlen h2
        refine ⟨q, fun _ i u hu => ?_, hb⟩
        have hi : i < 8 := (List.getElem?_eq_some_iff.1 hu).1
        have h9 := hc i hi
        rw [Addr.add_add] at h9
        rw [h9, hu]
      · exact ⟨pk0, fun h => absurd h hlt, by decide⟩
    have hlm : len ≤ 9223372036854775807 := by unfold maxLen at hm; omega
    refine ⟨(List.range len).map fun r => (each r).choose, ⟨⟨rfl, by simpa using hlm, fun _ => ⟨x, rfl, fun j p hj => ?_⟩⟩, fun p hp => ?_⟩, by simp, by simpa using hlm⟩
    · rw [List.getElem?_map] at hj
      obtain ⟨r, hr1, rfl⟩ := Option.map_eq_some_iff.1 hj
      obtain ⟨hr2, hr3⟩ := List.getElem?_eq_some_iff.1 hr1
      rw [List.getElem_range] at hr3
      subst hr3
      rw [List.length_range] at hr2
      exact ⟨_, rfl, rfl, (each j).choose_spec.1 hr2⟩
    · obtain ⟨r, _, rfl⟩ := List.mem_map.1 hp
      exact (each r).choose_spec.2
end Go.Proofs.Ytmdkgbbgppiaaaa
