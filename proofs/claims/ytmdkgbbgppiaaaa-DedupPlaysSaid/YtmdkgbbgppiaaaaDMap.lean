/- Maps that a call has made, as lists of key, element and stamp: look-up, entry, store, delete. -/
import Derived.WalkKit
import Derived.ProofKit
import Derived.Maps.Keyed
import Derived.Test.YtmdkgbbgppiaaaaProg
namespace Go.Proofs.Ytmdkgbbgppiaaaa
set_option linter.unusedVariables false
set_option linter.unusedSimpArgs false
open Go.RowKit Go.ChangeMaps
set_option linter.unusedSectionVars false

section
variable {κ ν : Type} [DecidableEq κ]
def ent (kv : κ → Value) (vv : ν → Value) (e : κ × ν × Nat) : MapEntry := ⟨kv e.1, vv e.2.1, e.2.2⟩
/-- What a list of entries holds for a key. -/
def getL (L : List (κ × ν × Nat)) (k : κ) : Option ν := (L.find? (fun e => decide (e.1 = k))).map (·.2.1)
/-- Keys of a type, as values. -/
structure KeyOk (P : Program) (kt : TypeId) (kv : κ → Value) (ok : κ → Prop) : Prop where
  law : Maps.Keyed P kt
  lit : ∀ x, ok x → ∃ l, keyOf P kt (kv x) = some l
  inj : ∀ x y, kv x = kv y → x = y
/-- A map's block is such a list. -/
structure MapRel (kv : κ → Value) (vv : ν → Value) (ok : κ → Prop) (w : World) (b : Nat) (L : List (κ × ν × Nat)) (c : Nat) : Prop where
  blk : w.heap[b]? = some (.map (L.map (ent kv vv)).toArray c)
  keys : L.Pairwise (fun p q => p.1 ≠ q.1)
  oks : ∀ e ∈ L, ok e.1
  born : ∀ e ∈ L, e.2.2 < c
  stamps : L.Pairwise (fun p q => p.2.2 ≠ q.2.2)

variable {P : Program} {kt et t : TypeId} {kv : κ → Value} {vv : ν → Value} {ok : κ → Prop} {w : World} {b c : Nat} {L : List (κ × ν × Nat)}

theorem getL_none {k : κ} (h : ∀ e ∈ L, e.1 ≠ k) : getL L k = none := by
  rw [getL, List.find?_eq_none.2 (fun e he => by simp [h e he])]
  rfl
theorem getL_at (hk : L.Pairwise (fun p q => p.1 ≠ q.1)) {j : Nat} {k : κ} {v : ν} {s : Nat} (h : L[j]? = some (k, v, s)) : getL L k = some v := by
  induction L generalizing j with
  | nil => simp at h
  | cons e l ih =>
    cases j with
    | zero =>
      simp only [List.getElem?_cons_zero, Option.some.injEq] at h
      subst h
      simp [getL]
    | succ j =>
      simp only [List.getElem?_cons_succ] at h
      have hm := List.mem_of_getElem? h
      have hne := (List.pairwise_cons.1 hk).1 _ hm
      have := ih (List.pairwise_cons.1 hk).2 h
      rw [getL] at this ⊢
      rw [List.find?_cons_of_neg (by simpa using hne)]
      exact this
theorem MapRel.find (K : KeyOk P kt kv ok) (h : MapRel kv vv ok w b L c) (k : κ) (hk : ok k) (W : World) :
    ((Instr.findKey kt (kv k) (L.map (ent kv vv))).run P W = .ok none W ∧ (∀ e ∈ L, e.1 ≠ k)) ∨
    ∃ j v s, (Instr.findKey kt (kv k) (L.map (ent kv vv))).run P W = .ok (some (j, vv v)) W ∧ L[j]? = some (k, v, s) := by
  obtain ⟨l, hl⟩ := K.lit k hk
  have hall : ∀ e ∈ L.map (ent kv vv), ∃ l, keyOf P kt e.key = some l := by
    intro e he
    obtain ⟨x, hx, rfl⟩ := List.mem_map.1 he
    exact K.lit x.1 (h.oks x hx)
  rcases K.law.find W hl _ hall with ⟨h1, h2⟩ | ⟨j, e, h1, h2, h3⟩
  · refine .inl ⟨h1, fun e he hek => h2 _ (List.mem_map.2 ⟨e, he, rfl⟩) ?_⟩
    rw [← hek]
    rfl
  · rw [List.getElem?_map] at h2
    obtain ⟨x, hx, rfl⟩ := Option.map_eq_some_iff.1 h2
    obtain ⟨k', v, s⟩ := x
    have : k' = k := K.inj _ _ h3
    subst this
    exact .inr ⟨j, v, s, h1, hx⟩

theorem MapRel.lookup (K : KeyOk P kt kv ok) (h : MapRel kv vv ok w b L c) (ht : P.underlying t = some (.map kt et)) {z : Value} (hz : ∀ W, (zeroValue et).run P W = .ok z W) (k : κ) (hk : ok k) :
    (Instr.lookup t (.map (some b)) (kv k) true).run P w = .ok (.tuple #[((getL L k).map vv).getD z, .bool (getL L k).isSome]) w := by
  obtain ⟨l, hl⟩ := K.lit k hk
  rcases h.find K k hk w with ⟨h1, h2⟩ | ⟨j, v, s, h1, h2⟩
  · rw [getL_none h2]
    simp [Instr.lookup, run_underlying ht, MapKept.run_getObj_map h.blk, K.law.check w _ hl, h1, hz, Result.andThen]
  · rw [getL_at h.keys h2]
    simp [Instr.lookup, run_underlying ht, MapKept.run_getObj_map h.blk, K.law.check w _ hl, h1, Result.andThen]
/-- The world with another map in that block. -/
theorem MapRel.set (hb : b < w.heap.size) {L' : List (κ × ν × Nat)} {c' : Nat} (hk : L'.Pairwise (fun p q => p.1 ≠ q.1)) (ho : ∀ e ∈ L', ok e.1) (hbn : ∀ e ∈ L', e.2.2 < c') (hs : L'.Pairwise (fun p q => p.2.2 ≠ q.2.2)) :
    MapRel kv vv ok (setBlock w b (.map (L'.map (ent kv vv)).toArray c')) b L' c' where
  blk := by simp [setBlock, hb]
  keys := hk
  oks := ho
  born := hbn
  stamps := hs
theorem MapRel.lt (h : MapRel kv vv ok w b L c) : b < w.heap.size := (Array.getElem?_eq_some_iff.1 h.blk).1
theorem MapRel.of_heap (h : MapRel kv vv ok w b L c) {w1 : World} (he : w1.heap[b]? = w.heap[b]?) : MapRel kv vv ok w1 b L c := ⟨he ▸ h.blk, h.keys, h.oks, h.born, h.stamps⟩

/-- An entry for a key that is not there. -/
theorem MapRel.entry_new (K : KeyOk P kt kv ok) (h : MapRel kv vv ok w b L c) (ht : P.underlying t = some (.map kt et)) (z : ν) (hz : ∀ W, (zeroValue et).run P W = .ok (vv z) W) (k : κ) (hk : ok k) (hn : ∀ e ∈ L, e.1 ≠ k) :
    ∃ w1, (Instr.mapEntry t (.map (some b)) (kv k)).run P w = .ok (.tuple #[vv z, .int .i64 (c : Int)]) w1 ∧ w1 = setBlock w b (.map ((L ++ [(k, z, c)]).map (ent kv vv)).toArray (c + 1)) ∧ MapRel kv vv ok w1 b (L ++ [(k, z, c)]) (c + 1) := by
  obtain ⟨l, hl⟩ := K.lit k hk
  rcases h.find K k hk w with ⟨h1, _⟩ | ⟨j, v, s, _, h2⟩
  · refine ⟨_, ?_, rfl, MapRel.set h.lt ?_ ?_ ?_ ?_⟩
    · simp [Instr.mapEntry, run_underlying ht, MapKept.run_getObj_map h.blk, K.law.check w _ hl, h1, hz, MapKept.run_setObj_map _ h.blk, Result.andThen, setBlock, goInt, ent]
    · refine List.pairwise_append.2 ⟨h.keys, List.pairwise_singleton _ _, fun x hx y hy => ?_⟩
      rw [List.mem_singleton.1 hy]
      exact hn x hx
    · intro e he
      rcases List.mem_append.1 he with he | he
      · exact h.oks e he
      · rw [List.mem_singleton.1 he]; exact hk
    · intro e he
      rcases List.mem_append.1 he with he | he
      · have := h.born e he; omega
      · rw [List.mem_singleton.1 he]; exact Nat.lt_succ_self c
    · refine List.pairwise_append.2 ⟨h.stamps, List.pairwise_singleton _ _, fun x hx y hy => ?_⟩
      rw [List.mem_singleton.1 hy]
      have := h.born x hx
      simp only
      omega
  · exact absurd rfl (hn _ (List.mem_of_getElem? h2))
/-- An entry for a key that is there. -/
theorem MapRel.entry_old (K : KeyOk P kt kv ok) (h : MapRel kv vv ok w b L c) (ht : P.underlying t = some (.map kt et)) (k : κ) (hk : ok k) {j : Nat} {v : ν} {s : Nat} (hj : L[j]? = some (k, v, s)) :
    ∃ w1, (Instr.mapEntry t (.map (some b)) (kv k)).run P w = .ok (.tuple #[vv v, .int .i64 (s : Int)]) w1 ∧ w1 = setBlock w b (.map (L.map (ent kv vv)).toArray c) ∧ MapRel kv vv ok w1 b L c := by
  obtain ⟨l, hl⟩ := K.lit k hk
  rcases h.find K k hk w with ⟨_, h2⟩ | ⟨j', v', s', h1, h2⟩
  · exact absurd rfl (h2 _ (List.mem_of_getElem? hj))
  · have hv : v' = v := by
      have := getL_at h.keys h2
      rw [getL_at h.keys hj] at this
      exact (Option.some.inj this).symm
    have hjj : j' = j := by
      have p := h.keys
      rw [List.pairwise_iff_getElem] at p
      obtain ⟨hl1, he1⟩ := List.getElem?_eq_some_iff.1 h2
      obtain ⟨hl2, he2⟩ := List.getElem?_eq_some_iff.1 hj
      rcases Nat.lt_trichotomy j' j with hlt | heq | hgt
      · exact absurd (by rw [he1, he2]) (p j' j hl1 hl2 hlt)
      · exact heq
      · exact absurd (by rw [he1, he2]) (p j j' hl2 hl1 hgt)
    subst hjj
    rw [hj] at h2
    have hss : s' = s := by
      have := Option.some.inj h2
      exact (congrArg (fun x => x.2.2) this).symm
    subst hv
    have hmod : (L.map (ent kv vv)).toArray.modify j' (fun e => { e with key := kv k }) = (L.map (ent kv vv)).toArray := by
      apply Array.ext_getElem?
      intro i
      rw [Array.getElem?_modify]
      by_cases hi : j' = i
      · subst hi
        rw [if_pos rfl]
        simp [hj, ent]
      · rw [if_neg hi]
    have hel : (L.map (ent kv vv)).toArray[j']? = some (ent kv vv (k, v', s)) := by simp [hj]
    refine ⟨_, ?_, rfl, MapRel.set h.lt h.keys h.oks h.born h.stamps⟩
    simp only [Instr.mapEntry, Sem.run_bind, run_underlying ht, MapKept.run_getObj_map h.blk, K.law.check w _ hl, h1, Result.andThen, hel, Option.map_some, Option.getD_some]
    have hst := K.law.stays w hl
    simp only [ent] at hst ⊢
    simp only [hst, hmod, MapKept.run_setObj_map _ h.blk, Sem.run_bind, Sem.run_pure, Result.andThen, setBlock, goInt]
theorem pair_idx {α β : Type} {f : α → β} {l : List α} (h : l.Pairwise (fun p q => f p ≠ f q)) {i j : Nat} {x y : α} (hi : l[i]? = some x) (hj : l[j]? = some y) (he : f x = f y) : i = j := by
  rw [List.pairwise_iff_getElem] at h
  obtain ⟨hl1, he1⟩ := List.getElem?_eq_some_iff.1 hi
  obtain ⟨hl2, he2⟩ := List.getElem?_eq_some_iff.1 hj
  rcases Nat.lt_trichotomy i j with hlt | heq | hgt
  · exact absurd (by rw [he1, he2]; exact he) (h i j hl1 hl2 hlt)
  · exact heq
  · exact absurd (by rw [he1, he2]; exact he.symm) (h j i hl2 hl1 hgt)
theorem pair_set {α β : Type} {f : α → β} {l : List α} (h : l.Pairwise (fun p q => f p ≠ f q)) {j : Nat} {x y : α} (hj : l[j]? = some x) (he : f y = f x) : (l.set j y).Pairwise (fun p q => f p ≠ f q) := by
  have hm : (l.set j y).map f = l.map f := by
    rw [List.map_set, he]
    have : (l.map f)[j]? = some (f x) := by rw [List.getElem?_map, hj]; rfl
    obtain ⟨hl, hx⟩ := List.getElem?_eq_some_iff.1 this
    rw [← hx, List.set_getElem_self]
  have h2 : (l.map f).Pairwise (· ≠ ·) := List.pairwise_map.2 h
  rw [← hm] at h2
  exact List.pairwise_map.1 h2
/-- A store into an entry. -/
theorem MapRel.entry_store (h : MapRel kv vv ok w b L c) {j : Nat} {k : κ} {v : ν} {s : Nat} (hj : L[j]? = some (k, v, s)) (v' : ν) :
    ∃ w1, (Instr.entryStore t (.map (some b)) (.int .i64 (s : Int)) (vv v')).run P w = .ok () w1 ∧ w1 = setBlock w b (.map ((L.set j (k, v', s)).map (ent kv vv)).toArray c) ∧ MapRel kv vv ok w1 b (L.set j (k, v', s)) c := by
  have hjl := (List.getElem?_eq_some_iff.1 hj).1
  have hfi : (L.map (ent kv vv)).toArray.findIdx? (fun e => (e.born : Int) == (s : Int)) = some j := by
    rw [List.findIdx?_toArray, List.findIdx?_eq_some_iff_getElem]
    refine ⟨by simpa using hjl, ?_, ?_⟩
    · have : L[j] = (k, v, s) := (List.getElem?_eq_some_iff.1 hj).2
      simp [ent, this]
    · intro i hi
      have hil : i < L.length := by omega
      simp only [List.getElem_map, ent, beq_iff_eq]
      intro he
      have := pair_idx (f := fun e : κ × ν × Nat => e.2.2) h.stamps (List.getElem?_eq_getElem hil) hj (by simp only; omega)
      omega
  have hmod : (L.map (ent kv vv)).toArray.modify j (fun e => { e with val := vv v' }) = ((L.set j (k, v', s)).map (ent kv vv)).toArray := by
    apply Array.ext_getElem?
    intro i
    rw [Array.getElem?_modify]
    by_cases hi : j = i
    · subst hi
      rw [if_pos rfl]
      have e1 : (L.map (ent kv vv)).toArray[j]? = some (ent kv vv (k, v, s)) := by simp [hj]
      have e2 : ((L.set j (k, v', s)).map (ent kv vv)).toArray[j]? = some (ent kv vv (k, v', s)) := by simp [hjl]
      rw [e1, e2]
      rfl
    · rw [if_neg hi]
      simp [List.getElem?_set_ne hi]
  refine ⟨_, ?_, rfl, MapRel.set h.lt (pair_set (f := fun e : κ × ν × Nat => e.1) h.keys hj rfl) ?_ ?_ (pair_set (f := fun e : κ × ν × Nat => e.2.2) h.stamps hj rfl)⟩
  · simp only [Instr.entryStore, Sem.run_bind, MapKept.run_getObj_map h.blk, asInt, asIntOf, Sem.run_pure, Result.andThen, hfi, hmod, MapKept.run_setObj_map _ h.blk, setBlock]
  · intro e he
    rcases List.mem_or_eq_of_mem_set he with he | he
    · exact h.oks e he
    · rw [he]; exact h.oks (k, v, s) (List.mem_of_getElem? hj)
  · intro e he
    rcases List.mem_or_eq_of_mem_set he with he | he
    · exact h.born e he
    · rw [he]; exact h.born (k, v, s) (List.mem_of_getElem? hj)
theorem filter_erase {α β : Type} [DecidableEq β] {f : α → β} : ∀ {l : List α}, l.Pairwise (fun p q => f p ≠ f q) → ∀ {j : Nat} {x : α}, l[j]? = some x → l.filter (fun e => decide (f e ≠ f x)) = l.eraseIdx j := by
  intro l
  induction l with
  | nil => intro _ j x hj; simp at hj
  | cons e l ih =>
    intro h j x hj
    obtain ⟨h1, h2⟩ := List.pairwise_cons.1 h
    cases j with
    | zero =>
      simp only [List.getElem?_cons_zero, Option.some.injEq] at hj
      subst hj
      rw [List.filter_cons_of_neg (by simp), List.eraseIdx_cons_zero, List.filter_eq_self]
      intro a ha
      simpa using (h1 a ha).symm
    | succ j =>
      simp only [List.getElem?_cons_succ] at hj
      rw [List.filter_cons_of_pos (by simpa using h1 x (List.mem_of_getElem? hj)), List.eraseIdx_cons_succ, ih h2 hj]
/-- delete. -/
theorem MapRel.delete (K : KeyOk P kt kv ok) (h : MapRel kv vv ok w b L c) (ht : P.underlying t = some (.map kt et)) (k : κ) (hk : ok k) (ty : TypeId) :
    ∃ w1, (Builtin.delete_ #[t, kt] ty #[.map (some b), kv k]).run P w = .ok (.tuple #[]) w1 ∧ w1 = setBlock w b (.map ((L.filter (fun e => decide (e.1 ≠ k))).map (ent kv vv)).toArray c) ∧ MapRel kv vv ok w1 b (L.filter (fun e => decide (e.1 ≠ k))) c := by
  obtain ⟨l, hl⟩ := K.lit k hk
  refine ⟨_, ?_, rfl, MapRel.set h.lt (h.keys.sublist List.filter_sublist) (fun e he => h.oks e (List.mem_filter.1 he).1) (fun e he => h.born e (List.mem_filter.1 he).1) (h.stamps.sublist List.filter_sublist)⟩
  rcases h.find K k hk w with ⟨h1, h2⟩ | ⟨j, v, s, h1, h2⟩
  · have hf : L.filter (fun e => decide (e.1 ≠ k)) = L := List.filter_eq_self.2 (fun a ha => by simpa using h2 a ha)
    rw [hf]
    simp [Builtin.delete_, run_underlying ht, MapKept.run_getObj_map h.blk, K.law.check w _ hl, h1, MapKept.run_setObj_map _ h.blk, Result.andThen, setBlock]
  · have hf : L.filter (fun e => decide (e.1 ≠ k)) = L.eraseIdx j := filter_erase (f := fun e : κ × ν × Nat => e.1) h.keys h2
    rw [hf]
    have hjl := (List.getElem?_eq_some_iff.1 h2).1
    have he : (L.map (ent kv vv)).toArray.eraseIdxIfInBounds j = ((L.eraseIdx j).map (ent kv vv)).toArray := by
      unfold Array.eraseIdxIfInBounds
      rw [dif_pos (by simpa using hjl)]
      apply Array.toList_inj.1
      simp [ChangeMaps.map_eraseIdx]
    rw [← he]
    simp [Builtin.delete_, run_underlying ht, MapKept.run_getObj_map h.blk, K.law.check w _ hl, h1, MapKept.run_setObj_map _ h.blk, Result.andThen, setBlock]
end
end Go.Proofs.Ytmdkgbbgppiaaaa
