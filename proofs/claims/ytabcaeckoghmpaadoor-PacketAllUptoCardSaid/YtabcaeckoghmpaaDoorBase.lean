/- Words for slices of bytes: what may be appended to without touching what came in, and the law of append for it. -/
import Derived.Test.YtabcaeckoghmpaaDoorProg
import Derived.Below
import Derived.ArgAppend
import Derived.Deep.Draws
import Derived.Deep.AppendLies
import Derived.OwnWalk
import Derived.Deep.DeepMust
import Derived.WalkKit
import Derived.KernelRfl
import Derived.Laws.OwnMore
import Derived.Laws.MakeOwn
import Derived.Laws.BytesArg
import Derived.Lib.Hide
import Derived.Deep.QuietTactic
import Derived.BigQuiet
import Derived.Test.YtabcaeckoghmpaaDoorWWords
namespace Go.Proofs.YtabcaeckoghmpaaDoor
set_option linter.unusedVariables false
set_option linter.unusedSimpArgs false
open Go.RowKit Go.Proofs.YtabcaeckoghmpaaDoorW.PrintWords

/-- A slice of numbers to which may be appended without a store into what was there: it has no room, or it is the call's own. -/
def Ext (k : IntKind) (E : TypeId) (w : World) (base : Nat) (v : Value) (xs : List Int) : Prop :=
  (∃ A, v = .slice A xs.length xs.length ∧ ReadsInt w k A xs.length xs) ∨ w.ownsRow base E 1 v xs.length (nums k xs)

theorem Ext.own {k : IntKind} {E : TypeId} {w : World} {base : Nat} {v : Value} {xs : List Int} (h : w.ownsRow base E 1 v xs.length (nums k xs)) : Ext k E w base v xs := .inr h

theorem Ext.shape {k : IntKind} {E : TypeId} {w : World} {base : Nat} {v : Value} {xs : List Int} (h : Ext k E w base v xs) : ∃ A c, v = .slice A xs.length c ∧ ReadsInt w k A xs.length xs := by
  rcases h with ⟨A, rfl, h⟩ | h
  · exact ⟨A, _, rfl, h⟩
  · exact own_reads h

theorem Ext.below {k : IntKind} {E : TypeId} {w w1 : World} {base : Nat} {v : Value} {xs : List Int} (h : Ext k E w base v xs) (hb : Below w.heap.size w w1) : Ext k E w1 base v xs := by
  rcases h with ⟨A, rfl, h⟩ | h
  · exact .inl ⟨A, rfl, h.below hb⟩
  · exact .inr (pw_own_below h hb)

section
variable {P : Program} {ops : Array Oper} {rest : List Oper} {o : Oper} {a : Act} {Q : Exit → Act → World → Prop}

/-- append(v, y): behind 'at_builtin'. -/
theorem append_ext {w0 W : World} (base : Nat) (hgd : o.guard = none) (s x : Operand) (t e : TypeId) (k : IntKind) (bytes : Nat)
    (ho : o.op = .call { callee := .builtin .append, args := #[s, x], argTypes := #[t, t] })
    (ht : P.underlying t = some (.slice e)) (hinfo : (P.info? e).map (fun i => (i.zero, i.size, i.bytes)) = some (some (.int k 0), 1, bytes)) (hb0 : 0 < bytes)
    (v : Value) (xs : List Int) (y : Int) (hs : a.eval s = v) (hx : a.eval x = .slice (some ⟨W.heap.size, 0, none⟩) 1 1)
    (HO : Ext k e W base v xs) (HB : Below base w0 W) (hbase : base ≤ W.heap.size) (hl : (xs.length + 1) * bytes ≤ 140737488355328)
    (h : ∀ v1 w1, w1.ownsRow base e 1 v1 (xs ++ [y]).length (nums k (xs ++ [y])) → Below base w0 w1 → wpList P ops Q rest (a.put o.dst v1) w1) :
    wpList P ops Q (o :: rest) a (W.alloc (.cells #[.int k y] e)) := by
  rcases HO with ⟨A, rfl, HR⟩ | HO
  · obtain ⟨i0, hi, hzz⟩ := Option.map_eq_some_iff.1 hinfo
    simp only [Prod.mk.injEq] at hzz
    obtain ⟨hz0, hz1, hz2⟩ := hzz
    have hlen : xs.length + 1 ≤ 140737488355328 := Nat.le_trans (Nat.le_mul_of_pos_right _ hb0) hl
    have HR' : ReadsInt (W.alloc (.cells #[.int k y] e)) k A xs.length xs := HR.below (Below.alloc (Below.refl _ _) (Nat.le_refl _) _)
    refine wpList_append_grows (W.alloc (.cells #[.int k y] e)) hgd s x t ho e i0 (.int k 0) 1 bytes ht hi hz0 hz1 hz2 rfl (by omega) A xs.length xs.length (nums k xs) hs ?_ (by simp [nums]) ?_
      ⟨W.heap.size, 0, none⟩ 1 1 [.int k y] hx rfl (World.news_of_block (cs := #[.int k y]) (t := e) (fr := (0, 0)) (heap_alloc_new W _)) (by simp [Value.oneCell']) (by omega) (by simp only [maxLen]; omega) hl ?_
    · intro hn
      have : xs.length = 0 := by
        rcases Nat.eq_zero_or_pos xs.length with h0 | h0
        · exact h0
        · obtain ⟨ad, e1, _⟩ := HR.2.2 h0
          rw [hn] at e1
          cases e1
      exact ⟨this, this⟩
    · intro b hb j u hu
      have hj : j < xs.length := by
        rcases Nat.lt_or_ge j xs.length with h | h
        · exact h
        · simp [nums, List.getElem?_eq_none h] at hu
      obtain ⟨ad, e1, hc⟩ := HR'.2.2 (by omega)
      rw [hb] at e1
      cases e1
      have h2 := hc j hj
      simp [nums, List.getElem?_eq_getElem hj] at hu
      subst hu
      rw [h2]
      simp [List.getD_eq_getElem?_getD, List.getElem?_eq_getElem hj]
    · intro v1 w1 hown hg
      refine h v1 w1 ?_ ((HB.alloc hbase _).grown hg (by simp; omega) (by intro k hk; cases hk))
      have hown' := own_weaken hown (base' := base) (by simp; omega)
      have e1 : nums k xs ++ [Value.int k y] = nums k (xs ++ [y]) := by simp [nums]
      rw [e1] at hown'
      simpa using hown'
  · exact print_append_num base hgd s x t e k bytes ho ht hinfo hb0 v xs y hs hx HO HB hbase hl fun v1 w1 h1 h2 _ _ => h v1 w1 h1 h2
end
theorem mid_int {P : Program} {k : IntKind} (t e : TypeId) {i : TypeInfo} (ht : P.underlying t = some (.slice e)) (hi : P.info? e = some i) (hsz : i.size = 1) (A : Option Addr) (c : Nat) (xs : List Int) (a b : Nat) (h1 : a ≤ b) (hm : b ≤ xs.length) (hc : xs.length ≤ c) :
    ∃ A' : Option Addr, (∀ (W : World) (y z : Int), y = a → z = b → (Instr.slice t (.slice A xs.length c) (some (.int .i64 y)) (some (.int .i64 z)) none).run P W = .ok (.slice A' (b - a) (c - a)) W) ∧
      (∀ w : World, ReadsInt w k A xs.length xs → ReadsInt w k A' (b - a) ((xs.drop a).take (b - a))) := by
  obtain ⟨A', h2, h3, h4⟩ := print_mid_int (P := P) (k := k) t e ht hi hsz A c xs (a : Int) (b : Int) (by omega) (by omega) (by omega) hc
  simp only [Int.toNat_natCast] at h2 h3 h4
  have e1 : (xs.take b).drop a = (xs.drop a).take (b - a) := by rw [List.drop_take]
  have e2 : ((xs.take b).drop a).length = b - a := by simp; omega
  refine ⟨A', fun W y z hy hz => ?_, fun w hr => ?_⟩
  · subst hy hz
    rw [← e2]
    exact h2 W
  · have := h3 w hr
    rw [e2, e1] at this
    exact this

theorem take_int {P : Program} {k : IntKind} (t e : TypeId) {i : TypeInfo} (ht : P.underlying t = some (.slice e)) (hi : P.info? e = some i) (hsz : i.size = 1) (A : Option Addr) (c : Nat) (xs : List Int) (b : Nat) (hm : b ≤ xs.length) (hc : xs.length ≤ c) :
    (∀ (W : World) (z : Int), z = b → (Instr.slice t (.slice A xs.length c) none (some (.int .i64 z)) none).run P W = .ok (.slice A b c) W) ∧
      (∀ w : World, ReadsInt w k A xs.length xs → ReadsInt w k A b (xs.take b)) := by
  obtain ⟨h2, h3, h4⟩ := print_take_int (P := P) (k := k) t e ht hi hsz A c xs (b : Int) (by omega) (by omega) hc
  simp only [Int.toNat_natCast] at h2 h3 h4
  have e2 : (xs.take b).length = b := by simp; omega
  rw [e2] at h2 h3
  exact ⟨fun W z hz => by subst hz; exact h2 W, h3⟩
theorem drop_int {P : Program} {k : IntKind} (t e : TypeId) {i : TypeInfo} (ht : P.underlying t = some (.slice e)) (hi : P.info? e = some i) (hsz : i.size = 1) (A : Option Addr) (c : Nat) (xs : List Int) (b : Nat) (hm : b ≤ xs.length) (hc : xs.length ≤ c) :
    ∃ A' : Option Addr, (∀ (W : World) (z : Int), z = b → (Instr.slice t (.slice A xs.length c) (some (.int .i64 z)) none none).run P W = .ok (.slice A' (xs.length - b) (c - b)) W) ∧
      (∀ w : World, ReadsInt w k A xs.length xs → ReadsInt w k A' (xs.length - b) (xs.drop b)) := by
  obtain ⟨A', h2, h3, h4⟩ := print_drop_of (P := P) (Value.int k) 0 t e .i64 ht hi hsz A c xs (b : Int) (by omega) (by omega) hc
  simp only [Int.toNat_natCast] at h2 h3 h4
  have e2 : (xs.drop b).length = xs.length - b := by simp
  rw [e2] at h2 h3
  exact ⟨A', fun W z hz => by subst hz; exact h2 W, h3⟩

/-- string(b), b the call's own, or one that is read. -/
theorem str_own {w : World} {base n : Nat} {v : Value} {xs : List Int} (h : w.ownsRow base 5 1 v n (nums .u8 xs)) : (convert 24 9 v).run Tryd.prog w = .ok (.string (strOfNums xs)) w :=
  own_string Tryd.underlying24 Tryd.underlying5 Tryd.underlying9 h

theorem nilReads (w : World) (k : IntKind) : ReadsInt w k none ([] : List Int).length [] := ⟨rfl, by decide, fun h => absurd h (by decide)⟩
theorem info5 : (Tryd.prog.info? 5).map (fun i => (i.zero, i.size, i.bytes)) = some (some (.int .u8 0), 1, 1) := by kernel_rfl

/-- A world in which what was there is as it was. -/
structure Later (w : World) where mk ::
  (now : World)
  (below : Below w.heap.size w now)
theorem Later.any (w : World) : Nonempty (Later w) := ⟨⟨w, Below.refl _ _⟩⟩

/-- A region that draws its order and whose calls may make memory, each yielding one value whatever world it is called in: the class of the worlds in which what was there is as it was. -/
theorem wp_region_calm_lit {P : Program} {id : Nat} {Q : Exit → Act → World → Prop} {a : Act} {w : World} {l : List Oper} (hm : P.follows .mixedOrders = true) (hB : Region.lexB .any l.toArray = true)
    (h : Nonempty (Later w) → wpQuiet P l.toArray (fun w' => ∃ x : Later w, w' = x.now) (fun a' => ∀ w', (∃ x : Later w, w' = x.now) → Q .normal a' w') l a) : (Code.region id l.toArray true).wp P Q a w :=
  wp_region_quiet (C := fun w' => ∃ x : Later w, w' = x.now) hm hB ⟨⟨_, Below.drew (Below.refl _ _)⟩, rfl⟩ (by simpa using h (Later.any w))
theorem Later.calls {P : Program} {f : FuncId} {args : Array Value} {w : World} {x : Later w} {v : Value} (h : Calls P f args x.now fun e w' => e = .returned v ∧ Below x.now.heap.size x.now w') :
    Calls P f args x.now fun e w'' => e = .returned v ∧ ∃ y : Later w, w'' = y.now :=
  h.mono fun _ w' ⟨h1, h2⟩ => ⟨h1, ⟨w', x.below.trans (h2.mono x.below.size)⟩, rfl⟩
theorem Later.same {P : Program} {f : FuncId} {args : Array Value} {w : World} {x : Later w} {v : Value} (h : Calls P f args x.now fun e w' => e = .returned v ∧ x.now = w') :
    Calls P f args x.now fun e w'' => e = .returned v ∧ ∃ y : Later w, w'' = y.now :=
  h.mono fun _ _ ⟨h1, h2⟩ => ⟨h1, x, h2.symm⟩
end Go.Proofs.YtabcaeckoghmpaaDoor
