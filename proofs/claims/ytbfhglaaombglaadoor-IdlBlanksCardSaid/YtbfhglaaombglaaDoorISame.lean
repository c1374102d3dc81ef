/- Plain laws: a schema is the same as itself. -/
import Derived.Test.YtbfhglaaombglaaDoorIgC
import Derived.Test.YtbfhglaaombglaaDoorPIdlParsesx12
namespace Go.Proofs.YtbfhglaaombglaaDoor
set_option linter.unusedVariables false
set_option linter.unusedSimpArgs false
open Go.RowKit Go.Proofs.YtbfhglaaombglaaDoorW.PrintWords Go.Proofs.YtbfhglaaombglaaDoor.PIdlParses

theorem up_to {α : Type} {g : Nat → Option α} (h : ∀ k, LeO (g k) (g (k + 1))) {r : α} : ∀ {d a : Nat}, g a = some r → g (a + d) = some r := by
  intro d
  induction d with
  | zero => intro a h9; exact h9
  | succ d ih => intro a h9; exact h _ _ (ih h9)
theorem wr_next {i : Nat} {n : Nat} (h : i < n) (hn : n ≤ 9223372036854775807) : wrap64 ((i : Int) + 1) = ((i + 1 : Nat) : Int) := by
  unfold wrap64; omega
theorem ints_refl (l : List Int) (hl : l.length ≤ 9223372036854775807) : ∃ k, concordatlaw00_SameInts.f k l l = some true := by
  have key : ∀ d i : Nat, i + d = l.length → ∃ k, concordatlaw00_SameInts.l0 k l l (i : Int) = some true := by
    intro d
    induction d with
    | zero => intro i hi; exact ⟨1, by rw [concordatlaw00_SameInts.l0, if_neg (by omega)]⟩
    | succ d ih =>
      intro i hi
      obtain ⟨k, hk⟩ := ih (i + 1) (by omega)
      exact ⟨k + 1, by rw [concordatlaw00_SameInts.l0, if_pos (by omega), if_pos (by omega), if_pos (by omega), if_pos rfl, wr_next (n := l.length) (by omega) hl]; exact hk⟩
  obtain ⟨k, hk⟩ := key l.length 0 (by omega)
  exact ⟨k, by rw [concordatlaw00_SameInts.f, if_pos rfl]; exact hk⟩
theorem enum_refl (nm : ByteArray) (l : List S89) (hl : l.length ≤ 9223372036854775807) : ∃ k, concordatlaw00_SameEnums.f k nm l nm l = some true := by
  have key : ∀ d i : Nat, i + d = l.length → ∃ k, concordatlaw00_SameEnums.l0 k (i : Int) nm l nm l = some true := by
    intro d
    induction d with
    | zero => intro i hi; exact ⟨1, by rw [concordatlaw00_SameEnums.l0, if_neg (by omega)]⟩
    | succ d ih =>
      intro i hi
      obtain ⟨k, hk⟩ := ih (i + 1) (by omega)
      exact ⟨k + 1, by rw [concordatlaw00_SameEnums.l0, if_pos (by omega), if_pos (by omega), if_pos (by omega), if_neg (by simp), wr_next (n := l.length) (by omega) hl]; exact hk⟩
  obtain ⟨k, hk⟩ := key l.length 0 (by omega)
  exact ⟨k + 1, by rw [concordatlaw00_SameEnums.f, if_pos rfl, concordatlaw00_SameEnums.j0, if_neg (by simp)]; exact hk⟩
theorem mess_refl (nm : ByteArray) (l : List S43) (r : List Int) (hl : l.length ≤ 9223372036854775807) (hr : r.length ≤ 9223372036854775807) : ∃ k, concordatlaw00_SameMessages.f k nm l r nm l r = some true := by
  have key : ∀ d i : Nat, i + d = l.length → ∃ k, concordatlaw00_SameMessages.l0 k (i : Int) nm l r nm l r = some true := by
    intro d
    induction d with
    | zero => intro i hi; exact ⟨1, by rw [concordatlaw00_SameMessages.l0, if_neg (by omega)]⟩
    | succ d ih =>
      intro i hi
      obtain ⟨k, hk⟩ := ih (i + 1) (by omega)
      exact ⟨k + 1, by rw [concordatlaw00_SameMessages.l0, if_pos (by omega), if_pos (by omega), if_pos (by omega), if_neg (by simp), wr_next (n := l.length) (by omega) hl]; exact hk⟩
  obtain ⟨k, hk⟩ := key l.length 0 (by omega)
  obtain ⟨j, hj⟩ := ints_refl r hr
  have h1 : concordatlaw00_SameInts.f (j + (k + 1)) r r = some true := up_to (g := fun k => concordatlaw00_SameInts.f k r r) (fun k => concordatlaw00_SameInts.mono r r k) hj
  have h2 : concordatlaw00_SameMessages.j0 (k + 1 + j) false nm l r nm l r = some true := by
    refine up_to (g := fun k => concordatlaw00_SameMessages.j0 k false nm l r nm l r) (fun k => (concordatlaw00_SameMessages.mono_l k).1 _ _ _ _ _ _ _) ?_
    show concordatlaw00_SameMessages.j0 (k + 1) false nm l r nm l r = some true
    rw [concordatlaw00_SameMessages.j0, if_neg (by simp)]
    exact hk
  refine ⟨j + (k + 1), ?_⟩
  rw [concordatlaw00_SameMessages.f, if_pos rfl, if_pos rfl, h1]
  show concordatlaw00_SameMessages.j0 (j + (k + 1)) (!true) nm l r nm l r = some true
  rw [Nat.add_comm j (k + 1)]
  exact h2
/-- No row is too long. -/
structure Short (ms : List S45) (es : List S68) (ts : List S72) : Prop where
  m : ms.length ≤ 9223372036854775807
  e : es.length ≤ 9223372036854775807
  t : ts.length ≤ 9223372036854775807
  mf : ∀ x ∈ ms, x.f1.length ≤ 9223372036854775807 ∧ x.f2.length ≤ 9223372036854775807
  ev : ∀ x ∈ es, x.f1.length ≤ 9223372036854775807
theorem same_refl (nm : ByteArray) (ms : List S45) (es : List S68) (ts : List S72) (h : Short ms es ts) : ∃ k, concordatlaw00_SameSchemas.f k nm ms es ts nm ms es ts = some true := by
  have k2 : ∀ d i : Nat, i + d = ts.length → ∃ k, concordatlaw00_SameSchemas.l2 k (i : Int) nm ms es ts nm ms es ts = some true := by
    intro d
    induction d with
    | zero => intro i hi; exact ⟨1, by rw [concordatlaw00_SameSchemas.l2, if_neg (by omega)]⟩
    | succ d ih =>
      intro i hi
      obtain ⟨k, hk⟩ := ih (i + 1) (by omega)
      exact ⟨k + 1, by rw [concordatlaw00_SameSchemas.l2, if_pos (by omega), if_pos (by omega), if_pos (by omega), if_neg (by simp), wr_next (n := ts.length) (by omega) h.t]; exact hk⟩
  have k1 : ∀ d i : Nat, i + d = es.length → ∃ k, concordatlaw00_SameSchemas.l1 k (i : Int) nm ms es ts nm ms es ts = some true := by
    intro d
    induction d with
    | zero =>
      intro i hi
      obtain ⟨k, hk⟩ := k2 ts.length 0 (by omega)
      exact ⟨k + 1, by rw [concordatlaw00_SameSchemas.l1, if_neg (by omega)]; exact hk⟩
    | succ d ih =>
      intro i hi
      obtain ⟨k, hk⟩ := ih (i + 1) (by omega)
      have hi2 : i < es.length := by omega
      have hrd : rd_T68 es (i : Int) = es[i] := by rw [rd_T68, Int.toNat_natCast, List.getD_eq_getElem?_getD, List.getElem?_eq_getElem hi2]; rfl
      obtain ⟨j, hj⟩ := enum_refl es[i].f0 es[i].f1 (h.ev _ (List.getElem_mem hi2))
      have h1 : concordatlaw00_SameEnums.f (j + k) es[i].f0 es[i].f1 es[i].f0 es[i].f1 = some true := up_to (g := fun k => concordatlaw00_SameEnums.f k es[i].f0 es[i].f1 es[i].f0 es[i].f1) (fun k => concordatlaw00_SameEnums.mono _ _ _ _ k) hj
      have h2 : concordatlaw00_SameSchemas.l1 (k + j) ((i + 1 : Nat) : Int) nm ms es ts nm ms es ts = some true := up_to (g := fun k => concordatlaw00_SameSchemas.l1 k ((i + 1 : Nat) : Int) nm ms es ts nm ms es ts) (fun k => (concordatlaw00_SameSchemas.mono_l k).2.2.1 _ _ _ _ _ _ _ _ _) hk
      refine ⟨j + k + 1, ?_⟩
      rw [concordatlaw00_SameSchemas.l1, if_pos (by omega), if_pos (by omega), if_pos (by omega), hrd, h1, wr_next (n := es.length) hi2 h.e]
      show concordatlaw00_SameSchemas.l1 (j + k) ((i + 1 : Nat) : Int) nm ms es ts nm ms es ts = some true
      rw [Nat.add_comm j k]
      exact h2
  have k0 : ∀ d i : Nat, i + d = ms.length → ∃ k, concordatlaw00_SameSchemas.l0 k (i : Int) nm ms es ts nm ms es ts = some true := by
    intro d
    induction d with
    | zero =>
      intro i hi
      obtain ⟨k, hk⟩ := k1 es.length 0 (by omega)
      exact ⟨k + 1, by rw [concordatlaw00_SameSchemas.l0, if_neg (by omega)]; exact hk⟩
    | succ d ih =>
      intro i hi
      obtain ⟨k, hk⟩ := ih (i + 1) (by omega)
      have hi2 : i < ms.length := by omega
      have hrd : rd_T45 ms (i : Int) = ms[i] := by rw [rd_T45, Int.toNat_natCast, List.getD_eq_getElem?_getD, List.getElem?_eq_getElem hi2]; rfl
      obtain ⟨j, hj⟩ := mess_refl ms[i].f0 ms[i].f1 ms[i].f2 (h.mf _ (List.getElem_mem hi2)).1 (h.mf _ (List.getElem_mem hi2)).2
      have h1 : concordatlaw00_SameMessages.f (j + k) ms[i].f0 ms[i].f1 ms[i].f2 ms[i].f0 ms[i].f1 ms[i].f2 = some true := up_to (g := fun k => concordatlaw00_SameMessages.f k ms[i].f0 ms[i].f1 ms[i].f2 ms[i].f0 ms[i].f1 ms[i].f2) (fun k => concordatlaw00_SameMessages.mono _ _ _ _ _ _ k) hj
      have h2 : concordatlaw00_SameSchemas.l0 (k + j) ((i + 1 : Nat) : Int) nm ms es ts nm ms es ts = some true := up_to (g := fun k => concordatlaw00_SameSchemas.l0 k ((i + 1 : Nat) : Int) nm ms es ts nm ms es ts) (fun k => (concordatlaw00_SameSchemas.mono_l k).2.1 _ _ _ _ _ _ _ _ _) hk
      refine ⟨j + k + 1, ?_⟩
      rw [concordatlaw00_SameSchemas.l0, if_pos (by omega), if_pos (by omega), if_pos (by omega), hrd, h1, wr_next (n := ms.length) hi2 h.m]
      show concordatlaw00_SameSchemas.l0 (j + k) ((i + 1 : Nat) : Int) nm ms es ts nm ms es ts = some true
      rw [Nat.add_comm j k]
      exact h2
  obtain ⟨k, hk⟩ := k0 ms.length 0 (by omega)
  refine ⟨k + 1, ?_⟩
  rw [concordatlaw00_SameSchemas.f, if_pos rfl, if_pos rfl, if_pos rfl, concordatlaw00_SameSchemas.j0, if_neg (by simp)]
  exact hk
end Go.Proofs.YtbfhglaaombglaaDoor
