/- Texts laid together by a program of this claim's, without the theorems that it does not use. -/
import Derived.Test.YtbfhglaaombglaaDoorIa
import Derived.Maps.AppendAt
import Derived.Laws.ResultCell
import Derived.Deep.CutBlock
import Derived.Deep.DeepCutAuto
import Derived.Test.YtbfhglaaombglaaDoorIp
import Derived.Maps.Range
import Derived.Deep.RegionLaw
section
namespace Go.Proofs.YtbfhglaaombglaaDoor
set_option linter.unusedVariables false
set_option linter.unusedSimpArgs false
open Go.RowKit Go.Proofs.YtbfhglaaombglaaDoorW.PrintWords
/-- A piece: its kind, its text, its place. -/
structure Tk where mk ::
  (kind : Nat) (text : ByteArray) (at_ : Nat)
/-- A reading: the pieces that are left; whether one did not fit. -/
abbrev St := List Tk × Bool
def teq (a b : ByteArray) : Bool := decide (bs a = bs b)
def E0 : ByteArray := ByteArray.empty
/-- The next piece. -/
def nxt (st : St) : Option Tk := if st.2 then none else st.1.head?
def takesB (t : ByteArray) (st : St) : Bool := match nxt st with | some k => teq k.text t | none => false
def takesM (t : ByteArray) (st : St) : St := if takesB t st then (st.1.tail, st.2) else st
def need (t : ByteArray) (st : St) : St := if takesB t st then (st.1.tail, st.2) else (st.1, true)
def nameOk (st : St) : Bool := match nxt st with | some k => k.kind == 1 && nameG k.text | none => false
def hdText (st : St) : ByteArray := match st.1 with | k :: _ => k.text | [] => E0
def nameV (st : St) : ByteArray := if nameOk st then hdText st else E0
def nameM (st : St) : St := if nameOk st then (st.1.tail, st.2) else (st.1, true)
def numOk (st : St) : Bool := match nxt st with | some k => k.kind == 2 && (numF k.text).2 | none => false
def numV (st : St) : Nat := if numOk st then (numF (hdText st)).1 else 0
def numM (st : St) : St := if numOk st then (st.1.tail, st.2) else (st.1, true)
/-- Words. -/
def w_schema : ByteArray := ⟨#[115, 99, 104, 101, 109, 97]⟩
def w_message : ByteArray := ⟨#[109, 101, 115, 115, 97, 103, 101]⟩
def w_enum : ByteArray := ⟨#[101, 110, 117, 109]⟩
def w_call : ByteArray := ⟨#[99, 97, 108, 108]⟩
def w_returns : ByteArray := ⟨#[114, 101, 116, 117, 114, 110, 115]⟩
def w_reserved : ByteArray := ⟨#[114, 101, 115, 101, 114, 118, 101, 100]⟩
def w_optional : ByteArray := ⟨#[111, 112, 116, 105, 111, 110, 97, 108]⟩
def w_repeated : ByteArray := ⟨#[114, 101, 112, 101, 97, 116, 101, 100]⟩
def w_int32 : ByteArray := ⟨#[105, 110, 116, 51, 50]⟩
def w_int64 : ByteArray := ⟨#[105, 110, 116, 54, 52]⟩
def w_bool : ByteArray := ⟨#[98, 111, 111, 108]⟩
def w_text : ByteArray := ⟨#[116, 101, 120, 116]⟩
def w_bytes : ByteArray := ⟨#[98, 121, 116, 101, 115]⟩
def c_open : ByteArray := ⟨#[123]⟩
def c_close : ByteArray := ⟨#[125]⟩
def c_po : ByteArray := ⟨#[40]⟩
def c_pc : ByteArray := ⟨#[41]⟩
def c_semi : ByteArray := ⟨#[59]⟩
def c_eq : ByteArray := ⟨#[61]⟩
def c_comma : ByteArray := ⟨#[44]⟩
/-- A field: its type's kind 0 where it is a name. -/
structure Fd where mk ::
  (name : ByteArray) (tag label kind : Nat) (tname : ByteArray)
structure Mg where mk ::
  (name : ByteArray) (fields : List Fd) (res : List Nat)
structure En where mk ::
  (name : ByteArray) (vals : List (ByteArray × Nat))
structure Mt where mk ::
  (name inn out : ByteArray)
structure Sc where mk ::
  (name : ByteArray) (msgs : List Mg) (enums : List En) (meths : List Mt)
def Sc.nil : Sc := ⟨E0, [], [], []⟩
/-- A scalar type's number; 0: it is none. -/
def scal (st : St) : Nat :=
  if takesB w_int32 st then 1 else if takesB w_int64 st then 2 else if takesB w_bool st then 3 else if takesB w_text st then 4 else if takesB w_bytes st then 5 else 0
def kindN (st : St) : ByteArray := if scal st = 0 then nameV st else E0
def kindM (st : St) : St := if scal st = 0 then nameM st else (st.1.tail, st.2)
def labV (st : St) : Nat := if takesB w_optional st then 2 else if takesB w_repeated st then 3 else 1
def labM (st : St) : St := if takesB w_optional st || takesB w_repeated st then (st.1.tail, st.2) else st
/-- A field. -/
def fieldV (st : St) : Fd :=
  let s1 := labM st
  let s2 := kindM s1
  let s3 := need c_eq (nameM s2)
  ⟨nameV s2, numV s3, labV st, scal s1, kindN s1⟩
def fieldM (st : St) : St := need c_semi (numM (need c_eq (nameM (kindM (labM st)))))
/-- Behind 'reserved' and its first number. -/
def resL : Nat → List Nat → St → List Nat × St
  | 0, l, st => (l, st)
  | k + 1, l, st => if takesB c_comma st then resL k (l ++ [numV (takesM c_comma st)]) (numM (takesM c_comma st)) else (l, st)
/-- How much is left to be done. -/
def mu (st : St) : Nat := if st.2 then 0 else st.1.length + 1
def resA (l : List Nat) (st : St) : List Nat × St := resL (mu st) l st
/-- A message's members. -/
def msgL : Nat → List Fd → List Nat → St → List Fd × List Nat × St
  | 0, f, r, st => (f, r, st)
  | k + 1, f, r, st =>
    if st.2 then (f, r, st)
    else if takesB c_close st then (f, r, takesM c_close st)
    else if takesB w_reserved st then
      let s1 := takesM w_reserved st
      let q := resA (r ++ [numV s1]) (numM s1)
      msgL k f q.1 (need c_semi q.2)
    else msgL k (f ++ [fieldV st]) r (fieldM st)
def msgA (f : List Fd) (r : List Nat) (st : St) : List Fd × List Nat × St := msgL (mu st) f r st
def messV (st : St) : Mg := let q := msgA [] [] (need c_open (nameM st)); ⟨nameV st, q.1, q.2.1⟩
def messM (st : St) : St := (msgA [] [] (need c_open (nameM st))).2.2
/-- An enumeration's values. -/
def valV (st : St) : ByteArray × Nat := (nameV st, numV (need c_eq (nameM st)))
def valM (st : St) : St := need c_semi (numM (need c_eq (nameM st)))
def enumL : Nat → List (ByteArray × Nat) → St → List (ByteArray × Nat) × St
  | 0, l, st => (l, st)
  | k + 1, l, st =>
    if st.2 then (l, st)
    else if takesB c_close st then (l, takesM c_close st)
    else enumL k (l ++ [valV st]) (valM st)
def enumA (l : List (ByteArray × Nat)) (st : St) : List (ByteArray × Nat) × St := enumL (mu st) l st
def enumV (st : St) : En := ⟨nameV st, (enumA [] (need c_open (nameM st))).1⟩
def enumM (st : St) : St := (enumA [] (need c_open (nameM st))).2
def callV (st : St) : Mt :=
  let s1 := need c_po (nameM st)
  let s2 := need c_po (need w_returns (need c_pc (nameM s1)))
  ⟨nameV st, nameV s1, nameV s2⟩
def callM (st : St) : St :=
  let s1 := need c_po (nameM st)
  let s2 := need c_po (need w_returns (need c_pc (nameM s1)))
  need c_semi (need c_pc (nameM s2))
/-- The declarations. -/
def declL : Nat → Sc → St → Sc × St
  | 0, x, st => (x, st)
  | k + 1, x, st =>
    if st.2 then (x, st)
    else if st.1.isEmpty then (x, st)
    else if takesB w_message st then let s := takesM w_message st; declL k { x with msgs := x.msgs ++ [messV s] } (messM s)
    else if takesB w_enum st then let s := takesM w_enum st; declL k { x with enums := x.enums ++ [enumV s] } (enumM s)
    else if takesB w_call st then let s := takesM w_call st; declL k { x with meths := x.meths ++ [callV s] } (callM s)
    else (x, (st.1, true))
def declA (x : Sc) (st : St) : Sc × St := declL (mu st) x st
def schemaS (st : St) : Sc × St := declA ⟨nameV (need w_schema st), [], [], []⟩ (need c_semi (nameM (need w_schema st)))
/-- A type's number in the program: a name is 7. -/
def kk7 (k : Nat) : Nat := if k = 0 then 7 else k
/-- What a type that is a name is. -/
def resK (es : List En) (f : Fd) : Fd := if kk7 f.kind = 7 then { f with kind := if es.any (fun e => teq e.name f.tname) then 6 else 7 } else f
def resolveS (x : Sc) : Sc := { x with msgs := x.msgs.map fun m => { m with fields := m.fields.map (resK x.enums) } }
/-- The pieces of a text. -/
def tkOf (s : ByteArray) (t : Nat × Nat × Nat) : Tk := ⟨t.1, s.extract t.2.1 (t.2.1 + t.2.2), t.2.1⟩
/-- What pieces are: a schema, or none and where. -/
def parseT (l : List Tk) (n : Nat) : Sc × Nat × Nat :=
  let q := schemaS (l, false)
  if q.2.2 then (Sc.nil, (match q.2.1 with | k :: _ => k.at_ | [] => n), 5) else (resolveS q.1, 0, 0)
def parseF (s : ByteArray) : Sc × Nat × Nat :=
  if 16384 < s.size then (Sc.nil, 0, 4)
  else match toksA 0 (bs s) with
    | (_, some (a, e)) => (Sc.nil, a, e)
    | (L, none) => parseT (L.map (tkOf s)) s.size
theorem mu_done (l : List Tk) : mu (l, true) = 0 := rfl
theorem mu_tail (st : St) (h : st.2 = false) (hn : st.1 ≠ []) : mu (st.1.tail, st.2) < mu st := by
  obtain ⟨l, b⟩ := st
  simp only at h hn ⊢
  subst h
  cases l with
  | nil => exact absurd rfl hn
  | cons k l => simp [mu]
theorem nxt_some {st : St} {k : Tk} (h : nxt st = some k) : st.2 = false ∧ ∃ l, st.1 = k :: l := by
  obtain ⟨l, b⟩ := st
  unfold nxt at h
  cases b with
  | true => cases h
  | false =>
    cases l with
    | nil => cases h
    | cons a l => cases h; exact ⟨rfl, l, rfl⟩
theorem takes_some {t : ByteArray} {st : St} (h : takesB t st = true) : st.2 = false ∧ st.1 ≠ [] := by
  unfold takesB at h
  cases hn : nxt st with
  | none => rw [hn] at h; cases h
  | some k => obtain ⟨h1, l, h2⟩ := nxt_some hn; exact ⟨h1, by rw [h2]; exact List.cons_ne_nil _ _⟩
theorem name_some {st : St} (h : nameOk st = true) : st.2 = false ∧ st.1 ≠ [] := by
  unfold nameOk at h
  cases hn : nxt st with
  | none => rw [hn] at h; cases h
  | some k => obtain ⟨h1, l, h2⟩ := nxt_some hn; exact ⟨h1, by rw [h2]; exact List.cons_ne_nil _ _⟩
theorem num_some {st : St} (h : numOk st = true) : st.2 = false ∧ st.1 ≠ [] := by
  unfold numOk at h
  cases hn : nxt st with
  | none => rw [hn] at h; cases h
  | some k => obtain ⟨h1, l, h2⟩ := nxt_some hn; exact ⟨h1, by rw [h2]; exact List.cons_ne_nil _ _⟩
theorem mu_takes {t : ByteArray} {st : St} (h : takesB t st = true) : mu (takesM t st) < mu st := by
  obtain ⟨h1, h2⟩ := takes_some h
  rw [takesM, if_pos h]
  exact mu_tail st h1 h2
theorem mu_need (t : ByteArray) (st : St) : mu (need t st) ≤ mu st - 1 := by
  unfold need
  split
  next h => obtain ⟨h1, h2⟩ := takes_some h; have := mu_tail st h1 h2; omega
  next h => rw [mu_done]; exact Nat.zero_le _
theorem mu_name (st : St) : mu (nameM st) ≤ mu st - 1 := by
  unfold nameM
  split
  next h => obtain ⟨h1, h2⟩ := name_some h; have := mu_tail st h1 h2; omega
  next h => rw [mu_done]; exact Nat.zero_le _
theorem mu_num (st : St) : mu (numM st) ≤ mu st - 1 := by
  unfold numM
  split
  next h => obtain ⟨h1, h2⟩ := num_some h; have := mu_tail st h1 h2; omega
  next h => rw [mu_done]; exact Nat.zero_le _
theorem scal_some {st : St} (h : scal st ≠ 0) : st.2 = false ∧ st.1 ≠ [] := by
  unfold scal at h
  split at h
  next h1 => exact takes_some h1
  split at h
  next h1 => exact takes_some h1
  split at h
  next h1 => exact takes_some h1
  split at h
  next h1 => exact takes_some h1
  split at h
  next h1 => exact takes_some h1
  exact absurd rfl h
theorem mu_kind (st : St) : mu (kindM st) ≤ mu st - 1 := by
  unfold kindM
  split
  next h => exact mu_name st
  next h => obtain ⟨h1, h2⟩ := scal_some h; have := mu_tail st h1 h2; omega
theorem mu_lab (st : St) : mu (labM st) ≤ mu st := by
  unfold labM
  split
  next h =>
    rw [Bool.or_eq_true] at h
    obtain ⟨h1, h2⟩ := h.elim takes_some takes_some
    have := mu_tail st h1 h2; omega
  next h => exact Nat.le_refl _
theorem mu_field (st : St) : mu (fieldM st) ≤ mu st - 1 := by
  unfold fieldM
  have a1 := mu_lab st
  have a2 := mu_kind (labM st)
  have a3 := mu_name (kindM (labM st))
  have a4 := mu_need c_eq (nameM (kindM (labM st)))
  have a5 := mu_num (need c_eq (nameM (kindM (labM st))))
  have a6 := mu_need c_semi (numM (need c_eq (nameM (kindM (labM st)))))
  omega
theorem mu_val (st : St) : mu (valM st) ≤ mu st - 1 := by
  unfold valM
  have a3 := mu_name st
  have a4 := mu_need c_eq (nameM st)
  have a5 := mu_num (need c_eq (nameM st))
  have a6 := mu_need c_semi (numM (need c_eq (nameM st)))
  omega
theorem mu_pos {st : St} (h : st.2 = false) : 1 ≤ mu st := by unfold mu; rw [h]; simp
theorem resL_more : ∀ k l st, mu st ≤ k → resL k l st = resA l st := by
  intro k
  induction k using Nat.strongRecOn with
  | _ k ih =>
    intro l st h
    by_cases ht : takesB c_comma st = true
    · have h1 := mu_pos (takes_some ht).1
      obtain ⟨k, rfl⟩ : ∃ j, k = j + 1 := ⟨k - 1, by omega⟩
      obtain ⟨m, hm⟩ : ∃ m, mu st = m + 1 := ⟨mu st - 1, by omega⟩
      have h2 := mu_takes ht
      have h3 := mu_num (takesM c_comma st)
      rw [resA, hm, resL, resL, if_pos ht, if_pos ht, ih k (by omega) _ _ (by omega)]
      by_cases hk : m < k + 1
      · rw [ih m hk _ _ (by omega)]
      · omega
    · have e : ∀ j, resL j l st = (l, st) := fun j => by cases j with
        | zero => rfl
        | succ j => rw [resL, if_neg ht]
      rw [resA, e, e]
theorem resA_step (l : List Nat) (st : St) : resA l st = if takesB c_comma st then resA (l ++ [numV (takesM c_comma st)]) (numM (takesM c_comma st)) else (l, st) := by
  by_cases ht : takesB c_comma st = true
  · have h1 := mu_pos (takes_some ht).1
    obtain ⟨m, hm⟩ : ∃ m, mu st = m + 1 := ⟨mu st - 1, by omega⟩
    have h2 := mu_takes ht
    have h3 := mu_num (takesM c_comma st)
    rw [resA, hm, resL, if_pos ht, if_pos ht, resL_more m _ _ (by omega)]
  · rw [if_neg ht, resA]
    cases mu st with
    | zero => rfl
    | succ j => rw [resL, if_neg ht]
theorem mu_res : ∀ k l st, mu st ≤ k → mu (resA l st).2 ≤ mu st := by
  intro k
  induction k with
  | zero => intro l st h; rw [resA_step, if_neg (fun ht => by have := mu_pos (takes_some ht).1; omega)]; exact Nat.le_refl _
  | succ k ih =>
    intro l st h
    rw [resA_step]
    by_cases ht : takesB c_comma st = true
    · have h2 := mu_takes ht
      have h3 := mu_num (takesM c_comma st)
      rw [if_pos ht]
      have := ih (l ++ [numV (takesM c_comma st)]) (numM (takesM c_comma st)) (by omega)
      omega
    · rw [if_neg ht]; exact Nat.le_refl _
/-- One round of a message's loop. -/
theorem mu_msg_res {st : St} (r : List Nat) (h : takesB w_reserved st = true) : mu (need c_semi (resA (r ++ [numV (takesM w_reserved st)]) (numM (takesM w_reserved st))).2) < mu st := by
  have a1 := mu_takes h
  have a2 := mu_num (takesM w_reserved st)
  have a3 := mu_res _ (r ++ [numV (takesM w_reserved st)]) (numM (takesM w_reserved st)) (Nat.le_refl _)
  have a4 := mu_need c_semi (resA (r ++ [numV (takesM w_reserved st)]) (numM (takesM w_reserved st))).2
  omega
theorem mu_msg_field {st : St} (h : st.2 = false) : mu (fieldM st) < mu st := by
  have := mu_field st
  have := mu_pos h
  omega
theorem msgL_more : ∀ k f r st, mu st ≤ k → msgL k f r st = msgA f r st := by
  intro k
  induction k using Nat.strongRecOn with
  | _ k ih =>
    intro f r st h
    by_cases h0 : st.2 = true
    · have e : ∀ j, msgL j f r st = (f, r, st) := fun j => by cases j with
        | zero => rfl
        | succ j => rw [msgL, if_pos h0]
      rw [msgA, e, e]
    · have h0' : st.2 = false := by simpa using h0
      have h1 := mu_pos h0'
      obtain ⟨k, rfl⟩ : ∃ j, k = j + 1 := ⟨k - 1, by omega⟩
      obtain ⟨m, hm⟩ : ∃ m, mu st = m + 1 := ⟨mu st - 1, by omega⟩
      rw [msgA, hm, msgL, msgL]
      by_cases hc : takesB c_close st = true
      · rw [if_neg h0, if_neg h0, if_pos hc, if_pos hc]
      · rw [if_neg h0, if_neg h0, if_neg hc, if_neg hc]
        by_cases hr : takesB w_reserved st = true
        · have h2 := mu_msg_res r hr
          rw [if_pos hr, if_pos hr]
          simp only
          rw [ih k (by omega) _ _ _ (by omega)]
          by_cases hk : m < k + 1
          · rw [ih m hk _ _ _ (by omega)]
          · omega
        · have h2 := mu_msg_field h0'
          rw [if_neg hr, if_neg hr, ih k (by omega) _ _ _ (by omega)]
          by_cases hk : m < k + 1
          · rw [ih m hk _ _ _ (by omega)]
          · omega
theorem msgA_done (f : List Fd) (r : List Nat) (st : St) (h : st.2 = true) : msgA f r st = (f, r, st) := by
  unfold msgA
  cases mu st with
  | zero => rfl
  | succ j => rw [msgL, if_pos h]
theorem msgA_close (f : List Fd) (r : List Nat) (st : St) (h : takesB c_close st = true) : msgA f r st = (f, r, takesM c_close st) := by
  have h0 := (takes_some h).1
  have h1 := mu_pos h0
  obtain ⟨m, hm⟩ : ∃ m, mu st = m + 1 := ⟨mu st - 1, by omega⟩
  rw [msgA, hm, msgL, if_neg (by rw [h0]; decide), if_pos h]
theorem msgA_res (f : List Fd) (r : List Nat) (st : St) (hc : takesB c_close st = false) (h : takesB w_reserved st = true) :
    msgA f r st = msgA f (resA (r ++ [numV (takesM w_reserved st)]) (numM (takesM w_reserved st))).1 (need c_semi (resA (r ++ [numV (takesM w_reserved st)]) (numM (takesM w_reserved st))).2) := by
  have h0 := (takes_some h).1
  have h1 := mu_pos h0
  have h2 := mu_msg_res r h
  obtain ⟨m, hm⟩ : ∃ m, mu st = m + 1 := ⟨mu st - 1, by omega⟩
  rw [msgA, hm, msgL, if_neg (by rw [h0]; decide), if_neg (by rw [hc]; decide), if_pos h]
  exact msgL_more m _ _ _ (by omega)
theorem msgA_field (f : List Fd) (r : List Nat) (st : St) (h0 : st.2 = false) (hc : takesB c_close st = false) (hr : takesB w_reserved st = false) :
    msgA f r st = msgA (f ++ [fieldV st]) r (fieldM st) := by
  have h1 := mu_pos h0
  have h2 := mu_msg_field h0
  obtain ⟨m, hm⟩ : ∃ m, mu st = m + 1 := ⟨mu st - 1, by omega⟩
  rw [msgA, hm, msgL, if_neg (by rw [h0]; decide), if_neg (by rw [hc]; decide), if_neg (by rw [hr]; decide)]
  exact msgL_more m _ _ _ (by omega)
theorem mu_msg : ∀ k f r st, mu st ≤ k → mu (msgA f r st).2.2 ≤ mu st := by
  intro k
  induction k with
  | zero => intro f r st h; rw [msgA_done f r st (by cases hb : st.2 with | true => rfl | false => have := mu_pos hb; omega)]; exact Nat.le_refl _
  | succ k ih =>
    intro f r st h
    by_cases h0 : st.2 = true
    · rw [msgA_done f r st h0]; exact Nat.le_refl _
    · have h0' : st.2 = false := by simpa using h0
      by_cases hc : takesB c_close st = true
      · rw [msgA_close f r st hc]
        exact Nat.le_of_lt (mu_takes hc)
      · by_cases hr : takesB w_reserved st = true
        · rw [msgA_res f r st (by simpa using hc) hr]
          have h2 := mu_msg_res r hr
          have := ih f (resA (r ++ [numV (takesM w_reserved st)]) (numM (takesM w_reserved st))).1 _ (by omega : mu (need c_semi (resA (r ++ [numV (takesM w_reserved st)]) (numM (takesM w_reserved st))).2) ≤ k)
          omega
        · rw [msgA_field f r st h0' (by simpa using hc) (by simpa using hr)]
          have h2 := mu_msg_field h0'
          have := ih (f ++ [fieldV st]) r (fieldM st) (by omega)
          omega
theorem mu_mess (st : St) : mu (messM st) ≤ mu st := by
  have a1 := mu_name st
  have a2 := mu_need c_open (nameM st)
  have a3 := mu_msg _ [] [] (need c_open (nameM st)) (Nat.le_refl _)
  unfold messM
  omega
theorem enumL_more : ∀ k l st, mu st ≤ k → enumL k l st = enumA l st := by
  intro k
  induction k using Nat.strongRecOn with
  | _ k ih =>
    intro l st h
    by_cases h0 : st.2 = true
    · have e : ∀ j, enumL j l st = (l, st) := fun j => by cases j with
        | zero => rfl
        | succ j => rw [enumL, if_pos h0]
      rw [enumA, e, e]
    · have h0' : st.2 = false := by simpa using h0
      have h1 := mu_pos h0'
      have h2 := mu_val st
      obtain ⟨k, rfl⟩ : ∃ j, k = j + 1 := ⟨k - 1, by omega⟩
      obtain ⟨m, hm⟩ : ∃ m, mu st = m + 1 := ⟨mu st - 1, by omega⟩
      rw [enumA, hm, enumL, enumL]
      by_cases hc : takesB c_close st = true
      · rw [if_neg h0, if_neg h0, if_pos hc, if_pos hc]
      · rw [if_neg h0, if_neg h0, if_neg hc, if_neg hc, ih k (by omega) _ _ (by omega)]
        by_cases hk : m < k + 1
        · rw [ih m hk _ _ (by omega)]
        · omega
theorem enumA_done (l : List (ByteArray × Nat)) (st : St) (h : st.2 = true) : enumA l st = (l, st) := by
  unfold enumA
  cases mu st with
  | zero => rfl
  | succ j => rw [enumL, if_pos h]
theorem enumA_close (l : List (ByteArray × Nat)) (st : St) (h : takesB c_close st = true) : enumA l st = (l, takesM c_close st) := by
  have h0 := (takes_some h).1
  have h1 := mu_pos h0
  obtain ⟨m, hm⟩ : ∃ m, mu st = m + 1 := ⟨mu st - 1, by omega⟩
  rw [enumA, hm, enumL, if_neg (by rw [h0]; decide), if_pos h]
theorem enumA_val (l : List (ByteArray × Nat)) (st : St) (h0 : st.2 = false) (hc : takesB c_close st = false) : enumA l st = enumA (l ++ [valV st]) (valM st) := by
  have h1 := mu_pos h0
  have h2 := mu_val st
  obtain ⟨m, hm⟩ : ∃ m, mu st = m + 1 := ⟨mu st - 1, by omega⟩
  rw [enumA, hm, enumL, if_neg (by rw [h0]; decide), if_neg (by rw [hc]; decide)]
  exact enumL_more m _ _ (by omega)
theorem mu_enumA : ∀ k l st, mu st ≤ k → mu (enumA l st).2 ≤ mu st := by
  intro k
  induction k with
  | zero => intro l st h; rw [enumA_done l st (by cases hb : st.2 with | true => rfl | false => have := mu_pos hb; omega)]; exact Nat.le_refl _
  | succ k ih =>
    intro l st h
    by_cases h0 : st.2 = true
    · rw [enumA_done l st h0]; exact Nat.le_refl _
    · have h0' : st.2 = false := by simpa using h0
      by_cases hc : takesB c_close st = true
      · rw [enumA_close l st hc]
        exact Nat.le_of_lt (mu_takes hc)
      · rw [enumA_val l st h0' (by simpa using hc)]
        have h2 := mu_val st
        have h1 := mu_pos h0'
        have := ih (l ++ [valV st]) (valM st) (by omega)
        omega
theorem mu_enum (st : St) : mu (enumM st) ≤ mu st := by
  have a1 := mu_name st
  have a2 := mu_need c_open (nameM st)
  have a3 := mu_enumA _ [] (need c_open (nameM st)) (Nat.le_refl _)
  unfold enumM
  omega
theorem mu_call (st : St) : mu (callM st) ≤ mu st := by
  unfold callM
  simp only
  have a1 := mu_name st
  have a2 := mu_need c_po (nameM st)
  have a3 := mu_name (need c_po (nameM st))
  have a4 := mu_need c_pc (nameM (need c_po (nameM st)))
  have a5 := mu_need w_returns (need c_pc (nameM (need c_po (nameM st))))
  have a6 := mu_need c_po (need w_returns (need c_pc (nameM (need c_po (nameM st)))))
  have a7 := mu_name (need c_po (need w_returns (need c_pc (nameM (need c_po (nameM st))))))
  have a8 := mu_need c_pc (nameM (need c_po (need w_returns (need c_pc (nameM (need c_po (nameM st)))))))
  have a9 := mu_need c_semi (need c_pc (nameM (need c_po (need w_returns (need c_pc (nameM (need c_po (nameM st))))))))
  omega
theorem declL_more : ∀ k x st, mu st ≤ k → declL k x st = declA x st := by
  intro k
  induction k using Nat.strongRecOn with
  | _ k ih =>
    intro x st h
    by_cases h0 : st.2 = true
    · have e : ∀ j, declL j x st = (x, st) := fun j => by cases j with
        | zero => rfl
        | succ j => rw [declL, if_pos h0]
      rw [declA, e, e]
    · have h0' : st.2 = false := by simpa using h0
      have h1 := mu_pos h0'
      obtain ⟨k, rfl⟩ : ∃ j, k = j + 1 := ⟨k - 1, by omega⟩
      obtain ⟨m, hm⟩ : ∃ m, mu st = m + 1 := ⟨mu st - 1, by omega⟩
      rw [declA, hm, declL, declL, if_neg h0, if_neg h0]
      by_cases hi : st.1.isEmpty = true
      · rw [if_pos hi, if_pos hi]
      · rw [if_neg hi, if_neg hi]
        by_cases hc : takesB w_message st = true
        · have a1 := mu_takes hc
          have a2 := mu_mess (takesM w_message st)
          rw [if_pos hc, if_pos hc]
          simp only
          rw [ih k (by omega) _ _ (by omega)]
          by_cases hk : m < k + 1
          · rw [ih m hk _ _ (by omega)]
          · omega
        · rw [if_neg hc, if_neg hc]
          by_cases hc : takesB w_enum st = true
          · have a1 := mu_takes hc
            have a2 := mu_enum (takesM w_enum st)
            rw [if_pos hc, if_pos hc]
            simp only
            rw [ih k (by omega) _ _ (by omega)]
            by_cases hk : m < k + 1
            · rw [ih m hk _ _ (by omega)]
            · omega
          · rw [if_neg hc, if_neg hc]
            by_cases hc : takesB w_call st = true
            · have a1 := mu_takes hc
              have a2 := mu_call (takesM w_call st)
              rw [if_pos hc, if_pos hc]
              simp only
              rw [ih k (by omega) _ _ (by omega)]
              by_cases hk : m < k + 1
              · rw [ih m hk _ _ (by omega)]
              · omega
            · rw [if_neg hc, if_neg hc]
theorem declA_done (x : Sc) (st : St) (h : st.2 = true ∨ st.1 = []) : declA x st = (x, st) := by
  unfold declA
  cases mu st with
  | zero => rfl
  | succ j =>
    rw [declL]
    by_cases h0 : st.2 = true
    · rw [if_pos h0]
    · rw [if_neg h0, if_pos]
      rcases h with h | h
      · exact absurd h h0
      · rw [h]; rfl
section
variable (x : Sc) (st : St) (h0 : st.2 = false)
include h0
theorem declA_message (h : takesB w_message st = true) : declA x st = declA { x with msgs := x.msgs ++ [messV (takesM w_message st)] } (messM (takesM w_message st)) := by
  have h1 := mu_pos h0
  have a1 := mu_takes h
  have a2 := mu_mess (takesM w_message st)
  have hn := (takes_some h).2
  obtain ⟨m, hm⟩ : ∃ m, mu st = m + 1 := ⟨mu st - 1, by omega⟩
  rw [declA, hm, declL, if_neg (by rw [h0]; decide), if_neg (by rw [List.isEmpty_iff]; exact hn), if_pos h]
  exact declL_more m _ _ (by omega)
theorem declA_enum (h9 : takesB w_message st = false) (h : takesB w_enum st = true) : declA x st = declA { x with enums := x.enums ++ [enumV (takesM w_enum st)] } (enumM (takesM w_enum st)) := by
  have h1 := mu_pos h0
  have a1 := mu_takes h
  have a2 := mu_enum (takesM w_enum st)
  have hn := (takes_some h).2
  obtain ⟨m, hm⟩ : ∃ m, mu st = m + 1 := ⟨mu st - 1, by omega⟩
  rw [declA, hm, declL, if_neg (by rw [h0]; decide), if_neg (by rw [List.isEmpty_iff]; exact hn), if_neg (by rw [h9]; decide), if_pos h]
  exact declL_more m _ _ (by omega)
theorem declA_call (h9 : takesB w_message st = false) (h8 : takesB w_enum st = false) (h : takesB w_call st = true) : declA x st = declA { x with meths := x.meths ++ [callV (takesM w_call st)] } (callM (takesM w_call st)) := by
  have h1 := mu_pos h0
  have a1 := mu_takes h
  have a2 := mu_call (takesM w_call st)
  have hn := (takes_some h).2
  obtain ⟨m, hm⟩ : ∃ m, mu st = m + 1 := ⟨mu st - 1, by omega⟩
  rw [declA, hm, declL, if_neg (by rw [h0]; decide), if_neg (by rw [List.isEmpty_iff]; exact hn), if_neg (by rw [h9]; decide), if_neg (by rw [h8]; decide), if_pos h]
  exact declL_more m _ _ (by omega)
theorem declA_none (hn : st.1 ≠ []) (h9 : takesB w_message st = false) (h8 : takesB w_enum st = false) (h7 : takesB w_call st = false) : declA x st = (x, (st.1, true)) := by
  have h1 := mu_pos h0
  obtain ⟨m, hm⟩ : ∃ m, mu st = m + 1 := ⟨mu st - 1, by omega⟩
  rw [declA, hm, declL, if_neg (by rw [h0]; decide), if_neg (by rw [List.isEmpty_iff]; exact hn), if_neg (by rw [h9]; decide), if_neg (by rw [h8]; decide), if_neg (by rw [h7]; decide)]
end
end Go.Proofs.YtbfhglaaombglaaDoor
end
section
namespace Go.Proofs.YtbfhglaaombglaaDoor
set_option linter.unusedVariables false
set_option linter.unusedSimpArgs false
open Go.RowKit Go.Proofs.YtbfhglaaombglaaDoorW.PrintWords
/-- A piece without its place. -/
def er (t : Tk) : Tk := { t with at_ := 0 }
def erS (st : St) : St := (st.1.map er, st.2)
theorem erS_tail (st : St) : erS (st.1.tail, st.2) = ((erS st).1.tail, (erS st).2) := by
  simp only [erS, List.map_tail]
theorem nxt_er (st : St) : nxt (erS st) = (nxt st).map er := by
  obtain ⟨l, b⟩ := st
  cases b <;> cases l <;> rfl
theorem takesB_er (t : ByteArray) (st : St) : takesB t (erS st) = takesB t st := by
  unfold takesB; rw [nxt_er]; cases nxt st <;> rfl
theorem takesM_er (t : ByteArray) (st : St) : takesM t (erS st) = erS (takesM t st) := by
  unfold takesM; rw [takesB_er]; split
  · exact (erS_tail st).symm
  · rfl
theorem need_er (t : ByteArray) (st : St) : need t (erS st) = erS (need t st) := by
  unfold need; rw [takesB_er]; split
  · exact (erS_tail st).symm
  · rfl
theorem nameOk_er (st : St) : nameOk (erS st) = nameOk st := by
  unfold nameOk; rw [nxt_er]; cases nxt st <;> rfl
theorem hdText_er (st : St) : hdText (erS st) = hdText st := by
  obtain ⟨l, b⟩ := st
  cases l <;> rfl
theorem nameV_er (st : St) : nameV (erS st) = nameV st := by unfold nameV; rw [nameOk_er, hdText_er]
theorem nameM_er (st : St) : nameM (erS st) = erS (nameM st) := by
  unfold nameM; rw [nameOk_er]; split
  · exact (erS_tail st).symm
  · rfl
theorem numOk_er (st : St) : numOk (erS st) = numOk st := by
  unfold numOk; rw [nxt_er]; cases nxt st <;> rfl
theorem numV_er (st : St) : numV (erS st) = numV st := by unfold numV; rw [numOk_er, hdText_er]
theorem numM_er (st : St) : numM (erS st) = erS (numM st) := by
  unfold numM; rw [numOk_er]; split
  · exact (erS_tail st).symm
  · rfl
theorem scal_er (st : St) : scal (erS st) = scal st := by unfold scal; simp only [takesB_er]
theorem kindN_er (st : St) : kindN (erS st) = kindN st := by unfold kindN; rw [scal_er, nameV_er]
theorem kindM_er (st : St) : kindM (erS st) = erS (kindM st) := by
  unfold kindM; rw [scal_er, nameM_er]; split
  · rfl
  · exact (erS_tail st).symm
theorem labV_er (st : St) : labV (erS st) = labV st := by unfold labV; simp only [takesB_er]
theorem labM_er (st : St) : labM (erS st) = erS (labM st) := by
  unfold labM; rw [takesB_er, takesB_er]; split
  · exact (erS_tail st).symm
  · rfl
theorem fieldV_er (st : St) : fieldV (erS st) = fieldV st := by
  unfold fieldV; simp only [labM_er, kindM_er, nameM_er, need_er, nameV_er, numV_er, labV_er, scal_er, kindN_er]
theorem fieldM_er (st : St) : fieldM (erS st) = erS (fieldM st) := by
  unfold fieldM; simp only [labM_er, kindM_er, nameM_er, need_er, numM_er]
theorem mu_er (st : St) : mu (erS st) = mu st := by unfold mu erS; simp only [List.length_map]
theorem resL_er : ∀ k l st, resL k l (erS st) = ((resL k l st).1, erS (resL k l st).2) := by
  intro k
  induction k with
  | zero => intro l st; rfl
  | succ k ih =>
    intro l st
    rw [resL, resL, takesB_er, takesM_er, numV_er, numM_er, ih]
    split <;> rfl
theorem resA_er (l : List Nat) (st : St) : resA l (erS st) = ((resA l st).1, erS (resA l st).2) := by unfold resA; rw [mu_er, resL_er]
theorem msgL_er : ∀ k f r st, msgL k f r (erS st) = ((msgL k f r st).1, (msgL k f r st).2.1, erS (msgL k f r st).2.2) := by
  intro k
  induction k with
  | zero => intro f r st; rfl
  | succ k ih =>
    intro f r st
    rw [msgL, msgL]
    simp only [takesB_er, takesM_er, numV_er, numM_er, resA_er, need_er, fieldV_er, fieldM_er, ih]
    rw [show (erS st).2 = st.2 from rfl]
    split
    · rfl
    · split
      · rfl
      · split <;> rfl
theorem msgA_er (f : List Fd) (r : List Nat) (st : St) : msgA f r (erS st) = ((msgA f r st).1, (msgA f r st).2.1, erS (msgA f r st).2.2) := by unfold msgA; rw [mu_er, msgL_er]
theorem messV_er (st : St) : messV (erS st) = messV st := by unfold messV; simp only [nameM_er, need_er, msgA_er, nameV_er]
theorem messM_er (st : St) : messM (erS st) = erS (messM st) := by unfold messM; simp only [nameM_er, need_er, msgA_er]
theorem valV_er (st : St) : valV (erS st) = valV st := by unfold valV; simp only [nameM_er, need_er, nameV_er, numV_er]
theorem valM_er (st : St) : valM (erS st) = erS (valM st) := by unfold valM; simp only [nameM_er, need_er, numM_er]
theorem enumL_er : ∀ k l st, enumL k l (erS st) = ((enumL k l st).1, erS (enumL k l st).2) := by
  intro k
  induction k with
  | zero => intro l st; rfl
  | succ k ih =>
    intro l st
    rw [enumL, enumL]
    simp only [takesB_er, takesM_er, valV_er, valM_er, ih]
    rw [show (erS st).2 = st.2 from rfl]
    split
    · rfl
    · split <;> rfl
theorem enumA_er (l : List (ByteArray × Nat)) (st : St) : enumA l (erS st) = ((enumA l st).1, erS (enumA l st).2) := by unfold enumA; rw [mu_er, enumL_er]
theorem enumV_er (st : St) : enumV (erS st) = enumV st := by unfold enumV; simp only [nameM_er, need_er, enumA_er, nameV_er]
theorem enumM_er (st : St) : enumM (erS st) = erS (enumM st) := by unfold enumM; simp only [nameM_er, need_er, enumA_er]
theorem callV_er (st : St) : callV (erS st) = callV st := by unfold callV; simp only [nameM_er, need_er, nameV_er]
theorem callM_er (st : St) : callM (erS st) = erS (callM st) := by unfold callM; simp only [nameM_er, need_er]
theorem declL_er : ∀ k x st, declL k x (erS st) = ((declL k x st).1, erS (declL k x st).2) := by
  intro k
  induction k with
  | zero => intro x st; rfl
  | succ k ih =>
    intro x st
    rw [declL, declL]
    simp only [takesB_er, takesM_er, messV_er, messM_er, enumV_er, enumM_er, callV_er, callM_er, ih]
    rw [show (erS st).2 = st.2 from rfl, show (erS st).1.isEmpty = st.1.isEmpty from by unfold erS; simp only [List.isEmpty_map]]
    split
    · rfl
    · split
      · rfl
      · split
        · rfl
        · split
          · rfl
          · split <;> rfl
theorem declA_er (x : Sc) (st : St) : declA x (erS st) = ((declA x st).1, erS (declA x st).2) := by unfold declA; rw [mu_er, declL_er]
theorem schemaS_er (st : St) : schemaS (erS st) = ((schemaS st).1, erS (schemaS st).2) := by unfold schemaS; simp only [nameM_er, need_er, nameV_er, declA_er]
/-- Pieces that are alike but for their places make the same schema. -/
theorem parseT_er (l l' : List Tk) (n n' : Nat) (h : l'.map er = l.map er) (x : Sc) (a : Nat) (hp : parseT l n = (x, a, 0)) : parseT l' n' = (x, 0, 0) := by
  have e1 := schemaS_er (l, false)
  have e2 := schemaS_er (l', false)
  have e3 : erS (l', false) = erS (l, false) := by unfold erS; simp only [h]
  rw [e3, e1] at e2
  obtain ⟨h1, h2⟩ := Prod.mk.inj e2
  have h3 : (schemaS (l, false)).2.2 = (schemaS (l', false)).2.2 := by
    have h9 := congrArg Prod.snd h2
    exact h9
  rw [parseT] at hp ⊢
  rw [← h3, ← h1]
  by_cases hf : (schemaS (l, false)).2.2 = true
  · rw [if_pos hf] at hp
    have := (Prod.mk.inj (Prod.mk.inj hp).2).2
    cases this
  · rw [if_neg hf] at hp ⊢
    rw [← (Prod.mk.inj hp).1]
end Go.Proofs.YtbfhglaaombglaaDoor
end
section
namespace Go.Proofs.YtbfhglaaombglaaDoor
set_option linter.unusedVariables false
set_option linter.unusedSimpArgs false
open Go.RowKit Go.Proofs.YtbfhglaaombglaaDoorW.PrintWords
/-- From u the pieces ps are cut, with v left. -/
inductive Cut : List Nat → List (Nat × ByteArray) → List Nat → Prop
  | nil (u : List Nat) : Cut u [] u
  | blank {u v : List Nat} {n : Nat} {ps : List (Nat × ByteArray)} (hu : u ≠ []) (h : stepL u = .inr (0, n)) (r : Cut (u.drop n) ps v) : Cut u ps v
  | tok {u v : List Nat} {k n : Nat} {t : ByteArray} {ps : List (Nat × ByteArray)} (hu : u ≠ []) (h : stepL u = .inr (k + 1, n)) (ht : bs t = u.take n) (r : Cut (u.drop n) ps v) : Cut u ((k + 1, t) :: ps) v
def tkP (q : Nat × ByteArray) : Tk := ⟨q.1, q.2, 0⟩
theorem cut_steps {u v : List Nat} {ps : List (Nat × ByteArray)} (h : Cut u ps v) : ∀ (p : Nat) (s : ByteArray), u = (bs s).drop p → ∃ l q, Steps p u l q v ∧ l.map (fun t => er (tkOf s t)) = ps.map tkP := by
  induction h with
  | nil u => intro p s _; exact ⟨[], p, .nil _ _, rfl⟩
  | @blank u v n ps hu h r ih =>
    intro p s hs
    obtain ⟨l, q, h1, h2⟩ := ih (p + n) s (by rw [hs, List.drop_drop])
    exact ⟨l, q, .blank hu h h1, h2⟩
  | @tok u v k n t ps hu h ht r ih =>
    intro p s hs
    obtain ⟨l, q, h1, h2⟩ := ih (p + n) s (by rw [hs, List.drop_drop])
    refine ⟨(k + 1, p, n) :: l, q, .tok hu h h1, ?_⟩
    rw [List.map_cons, List.map_cons, h2]
    have e : s.extract p (p + n) = t := by
      apply bs_inj
      rw [bs_extract, ht, hs, show p + n - p = n by omega]
    show er (tkOf s (k + 1, p, n)) :: _ = _
    rw [show er (tkOf s (k + 1, p, n)) = tkP (k + 1, t) by show (⟨k + 1, s.extract p (p + n), 0⟩ : Tk) = _; rw [e]; rfl]
/-- A text that is cut to its end is what its pieces are. -/
theorem cut_parse (s : ByteArray) (hs : s.size ≤ 16384) (ps : List (Nat × ByteArray)) (h : Cut (bs s) ps []) (x : Sc) (hp : parseT (ps.map tkP) 0 = (x, 0, 0)) : parseF s = (x, 0, 0) := by
  obtain ⟨l, q, h1, h2⟩ := cut_steps h 0 s rfl
  rw [parseF, if_neg (by omega), h1.toks_end]
  refine parseT_er (ps.map tkP) (l.map (tkOf s)) 0 s.size ?_ x 0 hp
  rw [List.map_map, List.map_map]
  have e1 : (er ∘ tkOf s) = fun t => er (tkOf s t) := rfl
  have e2 : (er ∘ tkP) = tkP := rfl
  rw [e1, e2, h2]
theorem blank_cut {v w : List Nat} {ps : List (Nat × ByteArray)} (h : Cut v ps w) : Cut (32 :: v) ps w := by
  have hd : dL (32 :: v) = (32, 1) := dL_head _ (by show (32 : Nat) < 128; decide)
  refine .blank (n := 1) (by simp) ?_ h
  unfold stepL
  rw [hd, if_neg (by decide), if_pos (by rfl)]
/-- A piece behind which something else begins. -/
theorem tok_cut (t : ByteArray) (k : Nat) (h : stepL (bs t) = .inr (k + 1, (bs t).length)) (hne : bs t ≠ []) {z v : List Nat} {ps : List (Nat × ByteArray)} (hz : z = [] ∨ ∃ c z', z = c :: z' ∧ c < 128 ∧ StopAt (k + 1) (bs t) c) (r : Cut z ps v) : Cut (bs t ++ z) ((k + 1, t) :: ps) v := by
  have hz2 : z = [] ∨ ∃ c z', z = c :: z' ∧ c < 128 ∧ ((bs t).length = (bs t).length → StopAt (k + 1) (bs t) c) := by
    rcases hz with h | ⟨c, z', h1, h2, h3⟩
    · exact .inl h
    · exact .inr ⟨c, z', h1, h2, fun _ => h3⟩
  have hst := step_swap (bs t) [] z hne (k + 1) (bs t).length (by rw [List.append_nil]; exact h) (Nat.le_refl _) hz2
  refine .tok (n := (bs t).length) (by simp [hne]) hst ?_ ?_
  · rw [List.take_left]
  · rw [List.drop_left]; exact r
theorem stop_name {x : List Nat} {c : Nat} (h : partF c = false) : StopAt 1 x c := ⟨fun _ => h, fun h => absurd h (by decide), fun h => absurd h (by decide)⟩
theorem stop_num {x : List Nat} {c : Nat} (h : dgF c = false) : StopAt 2 x c := ⟨fun h => absurd h (by decide), fun _ => h, fun h => absurd h (by decide)⟩
theorem stop_sign {x : List Nat} {c : Nat} : StopAt 3 x c := ⟨fun h => absurd h (by decide), fun h => absurd h (by decide), fun h => absurd h (by decide)⟩
def lettersB : ByteArray := ⟨#[97, 98, 99, 100, 101, 102, 103, 104, 105, 106, 107, 108, 109, 110, 111, 112, 113, 114, 115, 116]⟩
def digitsB : ByteArray := ⟨#[48, 49, 50, 51, 52, 53, 54, 55, 56, 57]⟩
def nameB (i : Nat) : ByteArray := (⟨#[102]⟩ : ByteArray) ++ lettersB.extract i (i + 1)
def dgB (m : Nat) : ByteArray := digitsB.extract m (m + 1)
def decB (v : Nat) : ByteArray := if v < 10 then dgB v else if v < 100 then dgB (v / 10) ++ dgB (v % 10) else (dgB (v / 100) ++ dgB (v / 10 % 10)) ++ dgB (v % 10)
def kindB (k : Nat) : ByteArray := if k = 0 then w_int32 else if k = 1 then w_int64 else if k = 2 then w_bool else if k = 3 then w_text else w_bytes
def labB (l : Nat) : ByteArray := if l = 0 then ⟨#[]⟩ else if l = 1 then ⟨#[111, 112, 116, 105, 111, 110, 97, 108, 32]⟩ else ⟨#[114, 101, 112, 101, 97, 116, 101, 100, 32]⟩
def labP (l : Nat) : List (Nat × ByteArray) := if l = 0 then [] else if l = 1 then [(1, w_optional)] else [(1, w_repeated)]
def DOk (d : Nat × Nat × Nat) : Prop := d.1 < 3 ∧ d.2.1 < 5 ∧ 1 ≤ d.2.2 ∧ d.2.2 ≤ 500
/-- A field's text. -/
def fieldL (i : Nat) (d : Nat × Nat × Nat) : List Nat := 32 :: (bs (labB d.1) ++ (bs (kindB d.2.1) ++ (32 :: (bs (nameB i) ++ (32 :: ([61] ++ (32 :: (bs (decB d.2.2) ++ [59]))))))))
def fieldP (i : Nat) (d : Nat × Nat × Nat) : List (Nat × ByteArray) := labP d.1 ++ [(1, kindB d.2.1), (1, nameB i), (3, c_eq), (2, decB d.2.2), (3, c_semi)]
def flatL : Nat → List (Nat × Nat × Nat) → List Nat
  | _, [] => []
  | i, d :: D => fieldL i d ++ flatL (i + 1) D
def flatP : Nat → List (Nat × Nat × Nat) → List (Nat × ByteArray)
  | _, [] => []
  | i, d :: D => fieldP i d ++ flatP (i + 1) D
def fdOf (i : Nat) (d : Nat × Nat × Nat) : Fd := ⟨nameB i, d.2.2, d.1 + 1, d.2.1 + 1, E0⟩
def flatF : Nat → List (Nat × Nat × Nat) → List Fd
  | _, [] => []
  | i, d :: D => fdOf i d :: flatF (i + 1) D
theorem flatL_snoc : ∀ (D : List (Nat × Nat × Nat)) (i : Nat) (d : Nat × Nat × Nat), flatL i (D ++ [d]) = flatL i D ++ fieldL (i + D.length) d := by
  intro D
  induction D with
  | nil => intro i d; simp [flatL]
  | cons a D ih => intro i d; simp only [List.cons_append, flatL, ih, List.append_assoc, List.length_cons]; rw [show i + 1 + D.length = i + (D.length + 1) by omega]
theorem flatF_snoc : ∀ (D : List (Nat × Nat × Nat)) (i : Nat) (d : Nat × Nat × Nat), flatF i (D ++ [d]) = flatF i D ++ [fdOf (i + D.length) d] := by
  intro D
  induction D with
  | nil => intro i d; simp [flatF]
  | cons a D ih => intro i d; simp only [List.cons_append, flatF, ih, List.length_cons]; rw [show i + 1 + D.length = i + (D.length + 1) by omega]
theorem kind_step : ∀ k, k < 5 → stepL (bs (kindB k)) = .inr (1, (bs (kindB k)).length) ∧ bs (kindB k) ≠ [] := by decide +kernel
theorem name_step : ∀ i, i < 20 → stepL (bs (nameB i)) = .inr (1, (bs (nameB i)).length) ∧ bs (nameB i) ≠ [] ∧ nameG (nameB i) = true ∧ (nameB i).size = 2 := by decide +kernel
theorem dec_step : ∀ v, v < 501 → 1 ≤ v → stepL (bs (decB v)) = .inr (2, (bs (decB v)).length) ∧ bs (decB v) ≠ [] ∧ numF (decB v) = (v, true) ∧ (decB v).size ≤ 3 := by decide +kernel
theorem sign_eq : stepL (bs c_eq) = .inr (3, (bs c_eq).length) ∧ bs c_eq ≠ [] := by decide +kernel
theorem sign_semi : stepL (bs c_semi) = .inr (3, (bs c_semi).length) ∧ bs c_semi ≠ [] := by decide +kernel
theorem word_opt : stepL (bs w_optional) = .inr (1, (bs w_optional).length) ∧ bs w_optional ≠ [] := by decide +kernel
theorem word_rep : stepL (bs w_repeated) = .inr (1, (bs w_repeated).length) ∧ bs w_repeated ≠ [] := by decide +kernel
theorem part32 : partF 32 = false := by decide +kernel
theorem dg59 : dgF 59 = false := by decide +kernel
/-- A field's text is cut into its pieces. -/
theorem field_cut (i : Nat) (d : Nat × Nat × Nat) (hi : i < 20) (hd : DOk d) {z v : List Nat} {ps : List (Nat × ByteArray)} (hz : ∃ z', z = 32 :: z') (r : Cut z ps v) : Cut (fieldL i d ++ z) (fieldP i d ++ ps) v := by
  obtain ⟨l, k, t⟩ := d
  obtain ⟨h1, h2, h3, h4⟩ := hd
  simp only at h1 h2 h3 h4
  obtain ⟨z', rfl⟩ := hz
  have a1 := tok_cut c_semi 2 sign_semi.1 sign_semi.2 (.inr ⟨32, z', rfl, by decide, stop_sign⟩) r
  have a2 := tok_cut (decB t) 1 (dec_step t (by omega) h3).1 (dec_step t (by omega) h3).2.1 (.inr ⟨59, _, rfl, by decide, stop_num dg59⟩) a1
  have a3 := tok_cut c_eq 2 sign_eq.1 sign_eq.2 (.inr ⟨32, _, rfl, by decide, stop_sign⟩) (blank_cut a2)
  have a4 := tok_cut (nameB i) 0 (name_step i hi).1 (name_step i hi).2.1 (.inr ⟨32, _, rfl, by decide, stop_name part32⟩) (blank_cut a3)
  have a5 := tok_cut (kindB k) 0 (kind_step k h2).1 (kind_step k h2).2 (.inr ⟨32, _, rfl, by decide, stop_name part32⟩) (blank_cut a4)
  have e9 : fieldL i (l, k, t) ++ 32 :: z' = 32 :: (bs (labB l) ++ (bs (kindB k) ++ 32 :: (bs (nameB i) ++ 32 :: (bs c_eq ++ 32 :: (bs (decB t) ++ (bs c_semi ++ 32 :: z')))))) := by
    unfold fieldL
    simp only [List.cons_append, List.append_assoc, List.nil_append]
    rfl
  rw [e9]
  refine blank_cut ?_
  have hl : l = 0 ∨ l = 1 ∨ l = 2 := by omega
  rcases hl with rfl | rfl | rfl
  · exact a5
  · have e : bs (labB 1) = bs w_optional ++ [32] := by decide +kernel
    rw [e, List.append_assoc]
    exact tok_cut w_optional 0 word_opt.1 word_opt.2 (.inr ⟨32, _, rfl, by decide, stop_name part32⟩) (blank_cut a5)
  · have e : bs (labB 2) = bs w_repeated ++ [32] := by decide +kernel
    rw [e, List.append_assoc]
    exact tok_cut w_repeated 0 word_rep.1 word_rep.2 (.inr ⟨32, _, rfl, by decide, stop_name part32⟩) (blank_cut a5)
theorem flat_head (i : Nat) (D : List (Nat × Nat × Nat)) (z : List Nat) : ∃ z', flatL i D ++ 32 :: z = 32 :: z' := by
  cases D with
  | nil => exact ⟨z, rfl⟩
  | cons d D => exact ⟨_, rfl⟩
theorem flat_cut : ∀ (D : List (Nat × Nat × Nat)) (i : Nat), i + D.length ≤ 20 → (∀ d ∈ D, DOk d) → ∀ (z v : List Nat) (ps : List (Nat × ByteArray)), Cut (32 :: z) ps v → Cut (flatL i D ++ 32 :: z) (flatP i D ++ ps) v := by
  intro D
  induction D with
  | nil => intro i _ _ z v ps h; exact h
  | cons d D ih =>
    intro i hi hd z v ps h
    rw [List.length_cons] at hi
    have := ih (i + 1) (by omega) (fun d' h' => hd d' (List.mem_cons_of_mem _ h')) z v ps h
    show Cut ((fieldL i d ++ flatL (i + 1) D) ++ 32 :: z) ((fieldP i d ++ flatP (i + 1) D) ++ ps) v
    rw [List.append_assoc, List.append_assoc]
    exact field_cut i d (by omega) (hd d List.mem_cons_self) (flat_head _ _ _) this
theorem lab_teq : ∀ k, k < 5 → teq (kindB k) w_optional = false ∧ teq (kindB k) w_repeated = false ∧ teq (kindB k) w_reserved = false ∧ teq (kindB k) c_close = false := by decide +kernel
theorem opt_teq : teq w_optional w_optional = true ∧ teq w_optional w_reserved = false ∧ teq w_optional c_close = false := by decide +kernel
theorem rep_teq : teq w_repeated w_optional = false ∧ teq w_repeated w_repeated = true ∧ teq w_repeated w_reserved = false ∧ teq w_repeated c_close = false := by decide +kernel
theorem semi_teq : teq c_semi c_semi = true := by decide +kernel
theorem eq_teq : teq c_eq c_eq = true := by decide +kernel
theorem scal_cons (k : Nat) (hk : k < 5) (l : List Tk) : scal (tkP (1, kindB k) :: l, false) = k + 1 := by
  have h : ∀ k, k < 5 → (if teq (kindB k) w_int32 then 1 else if teq (kindB k) w_int64 then 2 else if teq (kindB k) w_bool then 3 else if teq (kindB k) w_text then 4 else if teq (kindB k) w_bytes then 5 else 0) = k + 1 := by decide +kernel
  exact h k hk
theorem need_tk (t : ByteArray) (q : Nat) (l : List Tk) (h : teq t t = true) : need t (tkP (q, t) :: l, false) = (l, false) := by
  have hb : takesB t (tkP (q, t) :: l, false) = true := h
  rw [need, if_pos hb]
  rfl
/-- From the kind on. -/
theorem rest_field (i k t : Nat) (hi : i < 20) (hk : k < 5) (h3 : 1 ≤ t) (h4 : t ≤ 500) (l : List Tk) :
    kindM (tkP (1, kindB k) :: tkP (1, nameB i) :: tkP (3, c_eq) :: tkP (2, decB t) :: tkP (3, c_semi) :: l, false) = (tkP (1, nameB i) :: tkP (3, c_eq) :: tkP (2, decB t) :: tkP (3, c_semi) :: l, false) ∧
    nameV (tkP (1, nameB i) :: tkP (3, c_eq) :: tkP (2, decB t) :: tkP (3, c_semi) :: l, false) = nameB i ∧ nameM (tkP (1, nameB i) :: tkP (3, c_eq) :: tkP (2, decB t) :: tkP (3, c_semi) :: l, false) = (tkP (3, c_eq) :: tkP (2, decB t) :: tkP (3, c_semi) :: l, false) ∧
    need c_eq (tkP (3, c_eq) :: tkP (2, decB t) :: tkP (3, c_semi) :: l, false) = (tkP (2, decB t) :: tkP (3, c_semi) :: l, false) ∧
    numV (tkP (2, decB t) :: tkP (3, c_semi) :: l, false) = t ∧ numM (tkP (2, decB t) :: tkP (3, c_semi) :: l, false) = (tkP (3, c_semi) :: l, false) ∧ need c_semi (tkP (3, c_semi) :: l, false) = (l, false) := by
  have hn : nameOk (tkP (1, nameB i) :: tkP (3, c_eq) :: tkP (2, decB t) :: tkP (3, c_semi) :: l, false) = true := (name_step i hi).2.2.1
  have hv := (dec_step t (by omega) h3).2.2.1
  have ho : numOk (tkP (2, decB t) :: tkP (3, c_semi) :: l, false) = true := by
    show ((2 : Nat) == 2 && (numF (decB t)).2) = true
    rw [hv]; rfl
  refine ⟨?_, ?_, ?_, ?_, ?_, ?_, ?_⟩
  · rw [kindM, scal_cons k hk, if_neg (by omega)]; rfl
  · rw [nameV, if_pos hn]; rfl
  · rw [nameM, if_pos hn]; rfl
  · exact need_tk _ _ _ eq_teq
  · rw [numV, if_pos ho]
    show (numF (decB t)).1 = t
    rw [hv]
  · rw [numM, if_pos ho]; rfl
  · exact need_tk _ _ _ semi_teq
theorem field_val (i : Nat) (d : Nat × Nat × Nat) (hi : i < 20) (hd : DOk d) (l : List Tk) :
    fieldV ((fieldP i d).map tkP ++ l, false) = fdOf i d ∧ fieldM ((fieldP i d).map tkP ++ l, false) = (l, false) ∧ takesB c_close ((fieldP i d).map tkP ++ l, false) = false ∧ takesB w_reserved ((fieldP i d).map tkP ++ l, false) = false := by
  obtain ⟨lb, k, t⟩ := d
  obtain ⟨h1, h2, h3, h4⟩ := hd
  simp only at h1 h2 h3 h4
  obtain ⟨r1, r2, r3, r4, r5, r6, r7⟩ := rest_field i k t hi h2 h3 h4 l
  obtain ⟨k1, k2, k3, k4⟩ := lab_teq k h2
  have hs := scal_cons k h2 (tkP (1, nameB i) :: tkP (3, c_eq) :: tkP (2, decB t) :: tkP (3, c_semi) :: l)
  have hkn : kindN (tkP (1, kindB k) :: tkP (1, nameB i) :: tkP (3, c_eq) :: tkP (2, decB t) :: tkP (3, c_semi) :: l, false) = E0 := by rw [kindN, hs, if_neg (by omega)]
  have hl : lb = 0 ∨ lb = 1 ∨ lb = 2 := by omega
  have key : ∀ (st : St), labM st = (tkP (1, kindB k) :: tkP (1, nameB i) :: tkP (3, c_eq) :: tkP (2, decB t) :: tkP (3, c_semi) :: l, false) → labV st = lb + 1 → fieldV st = fdOf i (lb, k, t) ∧ fieldM st = (l, false) := by
    intro st e1 e2
    constructor
    · rw [fieldV]
      simp only [e1, e2, r1, r2, r3, r4, r5, hs, hkn]
      rfl
    · rw [fieldM, e1, r1, r3, r4, r6, r7]
  rcases hl with rfl | rfl | rfl
  · have e0 : ((fieldP i (0, k, t)).map tkP ++ l, false) = ((tkP (1, kindB k) :: tkP (1, nameB i) :: tkP (3, c_eq) :: tkP (2, decB t) :: tkP (3, c_semi) :: l, false) : St) := rfl
    rw [e0]
    have t1 : takesB w_optional (tkP (1, kindB k) :: tkP (1, nameB i) :: tkP (3, c_eq) :: tkP (2, decB t) :: tkP (3, c_semi) :: l, false) = false := k1
    have t2 : takesB w_repeated (tkP (1, kindB k) :: tkP (1, nameB i) :: tkP (3, c_eq) :: tkP (2, decB t) :: tkP (3, c_semi) :: l, false) = false := k2
    obtain ⟨q1, q2⟩ := key _ (by rw [labM, t1, t2]; rfl) (by rw [labV, t1, t2]; rfl)
    exact ⟨q1, q2, k4, k3⟩
  · have e0 : ((fieldP i (1, k, t)).map tkP ++ l, false) = ((tkP (1, w_optional) :: tkP (1, kindB k) :: tkP (1, nameB i) :: tkP (3, c_eq) :: tkP (2, decB t) :: tkP (3, c_semi) :: l, false) : St) := rfl
    rw [e0]
    have t1 : takesB w_optional (tkP (1, w_optional) :: tkP (1, kindB k) :: tkP (1, nameB i) :: tkP (3, c_eq) :: tkP (2, decB t) :: tkP (3, c_semi) :: l, false) = true := opt_teq.1
    obtain ⟨q1, q2⟩ := key _ (by rw [labM, t1]; rfl) (by rw [labV, t1]; rfl)
    exact ⟨q1, q2, opt_teq.2.2, opt_teq.2.1⟩
  · have e0 : ((fieldP i (2, k, t)).map tkP ++ l, false) = ((tkP (1, w_repeated) :: tkP (1, kindB k) :: tkP (1, nameB i) :: tkP (3, c_eq) :: tkP (2, decB t) :: tkP (3, c_semi) :: l, false) : St) := rfl
    rw [e0]
    have t1 : takesB w_optional (tkP (1, w_repeated) :: tkP (1, kindB k) :: tkP (1, nameB i) :: tkP (3, c_eq) :: tkP (2, decB t) :: tkP (3, c_semi) :: l, false) = false := rep_teq.1
    have t2 : takesB w_repeated (tkP (1, w_repeated) :: tkP (1, kindB k) :: tkP (1, nameB i) :: tkP (3, c_eq) :: tkP (2, decB t) :: tkP (3, c_semi) :: l, false) = true := rep_teq.2.1
    obtain ⟨q1, q2⟩ := key _ (by rw [labM, t1, t2]; rfl) (by rw [labV, t1, t2]; rfl)
    exact ⟨q1, q2, rep_teq.2.2.2, rep_teq.2.2.1⟩
theorem flat_msg : ∀ (D : List (Nat × Nat × Nat)) (i : Nat), i + D.length ≤ 20 → (∀ d ∈ D, DOk d) → ∀ (f : List Fd) (l : List Tk), msgA f [] ((flatP i D).map tkP ++ tkP (3, c_close) :: l, false) = (f ++ flatF i D, [], (l, false)) := by
  intro D
  induction D with
  | nil =>
    intro i _ _ f l
    have hc : takesB c_close (tkP (3, c_close) :: l, false) = true := by show teq c_close c_close = true; decide +kernel
    show msgA f [] (tkP (3, c_close) :: l, false) = _
    rw [msgA_close f [] _ hc, takesM, if_pos hc]
    simp [flatF]
  | cons d D ih =>
    intro i hi hd f l
    rw [List.length_cons] at hi
    have e : ((flatP i (d :: D)).map tkP ++ tkP (3, c_close) :: l, false) = (((fieldP i d).map tkP ++ ((flatP (i + 1) D).map tkP ++ tkP (3, c_close) :: l), false) : St) := by
      show ((fieldP i d ++ flatP (i + 1) D).map tkP ++ tkP (3, c_close) :: l, false) = _
      rw [List.map_append, List.append_assoc]
    rw [e]
    obtain ⟨v1, v2, v3, v4⟩ := field_val i d (by omega) (hd d List.mem_cons_self) ((flatP (i + 1) D).map tkP ++ tkP (3, c_close) :: l)
    rw [msgA_field f [] _ rfl v3 v4, v1, v2, ih (i + 1) (by omega) (fun d' h' => hd d' (List.mem_cons_of_mem _ h'))]
    simp [flatF]
/-- The head of the text. -/
def headB : ByteArray := ⟨#[115, 99, 104, 101, 109, 97, 32, 97, 59, 32, 109, 101, 115, 115, 97, 103, 101, 32, 109, 32, 123]⟩
def nA : ByteArray := ⟨#[97]⟩
def nM : ByteArray := ⟨#[109]⟩
def headP : List (Nat × ByteArray) := [(1, w_schema), (1, nA), (3, c_semi), (1, w_message), (1, nM), (3, c_open)]
theorem head_cut {z v : List Nat} {ps : List (Nat × ByteArray)} (hz : ∃ z', z = 32 :: z') (r : Cut z ps v) : Cut (bs headB ++ z) (headP ++ ps) v := by
  obtain ⟨z', rfl⟩ := hz
  have hs : ∀ t ∈ [w_schema, nA, w_message, nM], stepL (bs t) = .inr (1, (bs t).length) ∧ bs t ≠ [] := by decide +kernel
  have hc : stepL (bs c_open) = .inr (3, (bs c_open).length) ∧ bs c_open ≠ [] := by decide +kernel
  have p59 : partF 59 = false := by decide +kernel
  have a1 := tok_cut c_open 2 hc.1 hc.2 (.inr ⟨32, z', rfl, by decide, stop_sign⟩) r
  have a2 := tok_cut nM 0 (hs nM (by simp)).1 (hs nM (by simp)).2 (.inr ⟨32, _, rfl, by decide, stop_name part32⟩) (blank_cut a1)
  have a3 := tok_cut w_message 0 (hs w_message (by simp)).1 (hs w_message (by simp)).2 (.inr ⟨32, _, rfl, by decide, stop_name part32⟩) (blank_cut a2)
  have a4 := tok_cut c_semi 2 sign_semi.1 sign_semi.2 (.inr ⟨32, _, rfl, by decide, stop_sign⟩) (blank_cut a3)
  have a5 := tok_cut nA 0 (hs nA (by simp)).1 (hs nA (by simp)).2 (.inr ⟨59, _, rfl, by decide, stop_name p59⟩) a4
  have a6 := tok_cut w_schema 0 (hs w_schema (by simp)).1 (hs w_schema (by simp)).2 (.inr ⟨32, _, rfl, by decide, stop_name part32⟩) (blank_cut a5)
  have e9 : bs headB ++ 32 :: z' = bs w_schema ++ 32 :: (bs nA ++ (bs c_semi ++ 32 :: (bs w_message ++ 32 :: (bs nM ++ 32 :: (bs c_open ++ 32 :: z'))))) := by
    have e8 : bs headB = bs w_schema ++ 32 :: (bs nA ++ (bs c_semi ++ 32 :: (bs w_message ++ 32 :: (bs nM ++ 32 :: (bs c_open))))) := by decide +kernel
    rw [e8]
    simp only [List.append_assoc, List.cons_append]
  rw [e9]
  exact a6
theorem close_cut : Cut [32, 125] [(3, c_close)] [] := by
  have hc : stepL (bs c_close) = .inr (3, (bs c_close).length) ∧ bs c_close ≠ [] := by decide +kernel
  exact blank_cut (tok_cut c_close 2 hc.1 hc.2 (.inl rfl) (.nil []))
theorem res_id (F : List Fd) (h : ∀ f ∈ F, kk7 f.kind ≠ 7) : F.map (resK []) = F := by
  conv => rhs; rw [← List.map_id F]
  apply List.map_congr_left
  intro f hf
  rw [resK, if_neg (h f hf)]; rfl
theorem flatF_kind : ∀ (D : List (Nat × Nat × Nat)) (i : Nat), (∀ d ∈ D, DOk d) → ∀ f ∈ flatF i D, kk7 f.kind ≠ 7 := by
  intro D
  induction D with
  | nil => intro i _ f hf; cases hf
  | cons d D ih =>
    intro i hd f hf
    rcases List.mem_cons.1 hf with rfl | hf
    · have h9 := (hd d List.mem_cons_self).2.1
      show kk7 (d.2.1 + 1) ≠ 7
      unfold kk7
      rw [if_neg (by omega)]
      omega
    · exact ih (i + 1) (fun d' h' => hd d' (List.mem_cons_of_mem _ h')) f hf
/-- The whole. -/
theorem msgs_parse (D : List (Nat × Nat × Nat)) (hl : D.length ≤ 20) (hd : ∀ d ∈ D, DOk d) (s : ByteArray) (hz : s.size ≤ 16384) (hs : bs s = bs headB ++ (flatL 0 D ++ [32, 125])) : parseF s = (⟨nA, [⟨nM, flatF 0 D, []⟩], [], []⟩, 0, 0) := by
  have hcut : Cut (bs s) (headP ++ (flatP 0 D ++ [(3, c_close)])) [] := by
    rw [hs]
    exact head_cut (flat_head 0 D [125]) (flat_cut D 0 (by omega) hd [125] [] _ close_cut)
  refine cut_parse s hz _ hcut _ ?_
  have hw : teq w_schema w_schema = true ∧ nameG nA = true ∧ teq c_semi c_semi = true ∧ teq w_message w_message = true ∧ nameG nM = true ∧ teq c_open c_open = true := by decide +kernel
  obtain ⟨w1, w2, w3, w4, w5, w6⟩ := hw
  obtain ⟨R, hR⟩ : ∃ R, (flatP 0 D).map tkP ++ [tkP (3, c_close)] = R := ⟨_, rfl⟩
  have e : (headP ++ (flatP 0 D ++ [(3, c_close)])).map tkP = tkP (1, w_schema) :: tkP (1, nA) :: tkP (3, c_semi) :: tkP (1, w_message) :: tkP (1, nM) :: tkP (3, c_open) :: R := by
    rw [List.map_append, List.map_append]; simp only [List.map_cons, List.map_nil]; rw [hR]; rfl
  rw [e, parseT]
  have n1 : need w_schema (tkP (1, w_schema) :: tkP (1, nA) :: tkP (3, c_semi) :: tkP (1, w_message) :: tkP (1, nM) :: tkP (3, c_open) :: R, false) = (tkP (1, nA) :: tkP (3, c_semi) :: tkP (1, w_message) :: tkP (1, nM) :: tkP (3, c_open) :: R, false) := need_tk _ _ _ w1
  have o2 : nameOk (tkP (1, nA) :: tkP (3, c_semi) :: tkP (1, w_message) :: tkP (1, nM) :: tkP (3, c_open) :: R, false) = true := w2
  have n2 : nameV (tkP (1, nA) :: tkP (3, c_semi) :: tkP (1, w_message) :: tkP (1, nM) :: tkP (3, c_open) :: R, false) = nA := by rw [nameV, if_pos o2]; rfl
  have n3 : nameM (tkP (1, nA) :: tkP (3, c_semi) :: tkP (1, w_message) :: tkP (1, nM) :: tkP (3, c_open) :: R, false) = (tkP (3, c_semi) :: tkP (1, w_message) :: tkP (1, nM) :: tkP (3, c_open) :: R, false) := by rw [nameM, if_pos o2]; rfl
  have n4 : need c_semi (tkP (3, c_semi) :: tkP (1, w_message) :: tkP (1, nM) :: tkP (3, c_open) :: R, false) = (tkP (1, w_message) :: tkP (1, nM) :: tkP (3, c_open) :: R, false) := need_tk _ _ _ w3
  have t5 : takesB w_message (tkP (1, w_message) :: tkP (1, nM) :: tkP (3, c_open) :: R, false) = true := w4
  have n5 : takesM w_message (tkP (1, w_message) :: tkP (1, nM) :: tkP (3, c_open) :: R, false) = (tkP (1, nM) :: tkP (3, c_open) :: R, false) := by rw [takesM, if_pos t5]; rfl
  have o6 : nameOk (tkP (1, nM) :: tkP (3, c_open) :: R, false) = true := w5
  have n6 : nameV (tkP (1, nM) :: tkP (3, c_open) :: R, false) = nM := by rw [nameV, if_pos o6]; rfl
  have n7 : nameM (tkP (1, nM) :: tkP (3, c_open) :: R, false) = (tkP (3, c_open) :: R, false) := by rw [nameM, if_pos o6]; rfl
  have n8 : need c_open (tkP (3, c_open) :: R, false) = (R, false) := need_tk _ _ _ w6
  have n9 := flat_msg D 0 (by omega) hd [] []
  rw [hR] at n9
  have hm : messV (tkP (1, nM) :: tkP (3, c_open) :: R, false) = ⟨nM, flatF 0 D, []⟩ ∧ messM (tkP (1, nM) :: tkP (3, c_open) :: R, false) = ([], false) := by
    constructor
    · rw [messV]; simp only [n6, n7, n8, n9, List.nil_append]
    · rw [messM, n7, n8, n9]
  have hS : schemaS (tkP (1, w_schema) :: tkP (1, nA) :: tkP (3, c_semi) :: tkP (1, w_message) :: tkP (1, nM) :: tkP (3, c_open) :: R, false) = (⟨nA, [⟨nM, flatF 0 D, []⟩], [], []⟩, ([], false)) := by
    rw [schemaS, n1, n2, n3, n4, declA_message _ _ rfl t5, n5, hm.1, hm.2, declA_done _ _ (.inr rfl)]
    rfl
  rw [hS]
  simp only [Bool.false_eq_true, if_false]
  have hr : resolveS ⟨nA, [⟨nM, flatF 0 D, []⟩], [], []⟩ = ⟨nA, [⟨nM, flatF 0 D, []⟩], [], []⟩ := by
    show (⟨nA, [⟨nM, (flatF 0 D).map (resK []), []⟩], [], []⟩ : Sc) = _
    rw [res_id _ (flatF_kind D 0 hd)]
  rw [hr]
end Go.Proofs.YtbfhglaaombglaaDoor
end
section
namespace Go.Proofs.YtbfhglaaombglaaDoor
set_option linter.unusedVariables false
set_option linter.unusedSimpArgs false
open Go.RowKit Go.Proofs.YtbfhglaaombglaaDoorW.PrintWords
theorem tmod_lo (a : Int) (n : Nat) (h : 0 < n) : -(n : Int) < a.tmod n := by
  rcases Int.lt_or_le a 0 with h1 | h1
  · have h2 := Int.tmod_lt_of_pos (-a) (show (0 : Int) < n by omega)
    rw [Int.neg_tmod] at h2
    omega
  · have := Int.tmod_nonneg (n : Int) h1
    omega
end Go.Proofs.YtbfhglaaombglaaDoor
end
section
namespace Go.Proofs.YtbfhglaaombglaaDoor
set_option linter.unusedVariables false
set_option linter.unusedSimpArgs false
open Go.RowKit Go.Proofs.YtbfhglaaombglaaDoorW.PrintWords
set_option maxRecDepth 100000 in
theorem dec_1 (v : Nat) (hv : v < 10) (w : World) :
    Calls Tryd.prog 14 #[.int .i64 (v : Int)] w fun e w' => e = .returned (.string (dgB v)) ∧ ∃ m, w' = w.drewN m := by
  obtain ⟨v1, hv1⟩ : ∃ v1, v + 1 = v1 := ⟨_, rfl⟩
  have hm1i : (v : Int) + 1 = (v1 : Int) := by omega
  have hcut := fun W => cut_str ⟨#[48, 49, 50, 51, 52, 53, 54, 55, 56, 57]⟩ v v1 (by omega) (show v1 ≤ 10 by omega) W
  obtain ⟨s, hs⟩ : ∃ s, (⟨#[48, 49, 50, 51, 52, 53, 54, 55, 56, 57]⟩ : ByteArray).extract v v1 = s := ⟨_, rfl⟩
  simp only [hs] at hcut
  have HS := Aside0.mk hs
  have HV := Aside0.mk hv1
  have hlt : (v : Int) < 10 := by omega
  have d1 : decide ((v : Int) < 10) = true := decide_eq_true hlt
  clear hs hv1
  go_enter Tryd.func14, Tryd.ntmps14
  go_wp2
  go_ret
  refine ⟨?_, 0, rfl⟩
  rw [← HS.out, ← HV.out]
  rfl
set_option maxRecDepth 100000 in
set_option maxHeartbeats 400000 in
theorem dec_r (v : Nat) (hv : 10 ≤ v) (hv2 : v ≤ 999) (u : ByteArray) (hu : u.size ≤ 10) (IH : Aside0 (∀ W, Calls Tryd.prog 14 #[.int .i64 ((v / 10 : Nat) : Int)] W fun e w' => e = .returned (.string u) ∧ ∃ m, w' = W.drewN m)) (w : World) :
    Calls Tryd.prog 14 #[.int .i64 (v : Int)] w fun e w' => e = .returned (.string (u ++ dgB (v % 10))) ∧ ∃ m, w' = w.drewN m := by
  obtain ⟨m, hm⟩ : ∃ m, v % 10 = m := ⟨_, rfl⟩
  obtain ⟨y, hy⟩ : ∃ y, v / 10 = y := ⟨_, rfl⟩
  rw [hy] at IH
  rw [hm]
  have hm10 : m < 10 := by omega
  have hmi : (v : Int).tmod 10 = (m : Int) := by rw [Int.tmod_eq_emod_of_nonneg (by omega)]; omega
  have hyi : (v : Int).tdiv 10 = (y : Int) := by rw [Int.tdiv_eq_ediv_of_nonneg (by omega)]; omega
  obtain ⟨m1, hm1⟩ : ∃ m1, m + 1 = m1 := ⟨_, rfl⟩
  have hm1i : (m : Int) + 1 = (m1 : Int) := by omega
  have hcut := fun W => cut_str ⟨#[48, 49, 50, 51, 52, 53, 54, 55, 56, 57]⟩ m m1 (by omega) (show m1 ≤ 10 by omega) W
  obtain ⟨s, hs⟩ : ∃ s, (⟨#[48, 49, 50, 51, 52, 53, 54, 55, 56, 57]⟩ : ByteArray).extract m m1 = s := ⟨_, rfl⟩
  simp only [hs] at hcut
  have hsz : s.size ≤ 10 := by rw [← hs, ByteArray.size_extract]; show min m1 10 - m ≤ 10; omega
  have HS : Aside0 (dgB m = s) := ⟨by rw [← hs, ← hm1]; rfl⟩
  have hlt : ¬ (v : Int) < 10 := by omega
  have d1 : decide ((v : Int) < 10) = false := decide_eq_false hlt
  have hsum : ¬ (9223372036854775807 < u.size + s.size) := by omega
  have hwy : wrap64 (y : Int) = (y : Int) := by unfold wrap64; omega
  clear hs hm1 hm hy
  go_enter Tryd.func14, Tryd.ntmps14
  go_upto_region 3 with fail
  go_quiet (exact Calls.quiet_of (IH.out _))
  all_goals
    go_wp2
    go_ret
    exact ⟨by rw [HS.out]; rfl, _, rfl⟩
theorem dg_size (m : Nat) : (dgB m).size ≤ 1 := by unfold dgB; rw [ByteArray.size_extract]; omega
theorem dec_any (v : Nat) (hv : v ≤ 999) (w : World) :
    Calls Tryd.prog 14 #[.int .i64 (v : Int)] w fun e w' => e = .returned (.string (decB v)) ∧ ∃ m, w' = w.drewN m := by
  by_cases h1 : v < 10
  · rw [decB, if_pos h1]; exact dec_1 v h1 w
  · by_cases h2 : v < 100
    · rw [decB, if_neg h1, if_pos h2]
      exact dec_r v (by omega) hv _ (by have := dg_size (v / 10); omega) ⟨fun W => dec_1 (v / 10) (by omega) W⟩ w
    · rw [decB, if_neg h1, if_neg h2]
      refine dec_r v (by omega) hv _ (by have := dg_size (v / 100); have := dg_size (v / 10 % 10); rw [ByteArray.size_append]; omega) ⟨fun W => ?_⟩ w
      have h9 := dec_r (v / 10) (by omega) (by omega) _ (by have := dg_size (v / 10 / 10); omega) ⟨fun W => dec_1 (v / 10 / 10) (by omega) W⟩ W
      rw [show v / 10 / 10 = v / 100 by omega] at h9
      exact h9
/-- A number as one from 0 to n - 1: which. -/
def plF (v : Int) (n : Nat) : Nat := if v.tmod n < 0 then (v.tmod n + n).toNat else (v.tmod n).toNat
theorem plF_lt (v : Int) (n : Nat) (h : 0 < n) : plF v n < n := by
  have h1 : v.tmod n < n := Int.tmod_lt_of_pos _ (by omega)
  have h2 := tmod_lo v n h
  unfold plF
  split <;> omega
theorem place_val (v : Int) (n : Nat) (w : World) (h : 0 < n) (hn : n ≤ 9223372036854775807) :
    Calls Tryd.prog 13 #[.int .i64 v, .int .i64 (n : Int)] w fun e w' => e = .returned (.int .i64 (plF v n : Int)) ∧ w = w' := by
  unfold plF
  obtain ⟨t, ht⟩ : ∃ t, v.tmod n = t := ⟨_, rfl⟩
  rw [ht]
  have ht1 : t < n := by rw [← ht]; exact Int.tmod_lt_of_pos _ (by omega)
  have ht2 : -(n : Int) < t := by rw [← ht]; exact tmod_lo _ _ h
  have hn0 : ((n : Int) == 0) = false := by rw [beq_eq_false_iff_ne]; omega
  have hne : ¬ (n : Int) = 0 := by omega
  by_cases hneg : t < 0
  · rw [if_pos hneg]
    obtain ⟨k, hk⟩ : ∃ k, (t + (n : Int)).toNat = k := ⟨_, rfl⟩
    have hki : (k : Int) = t + (n : Int) := by omega
    rw [hk]
    clear hk
    go_enter Tryd.func13, Tryd.ntmps13
    go_wp2
    go_ret
    refine ⟨?_, rfl⟩
    first | rfl | (rw [hki]; rfl)
  · rw [if_neg hneg]
    obtain ⟨k, hk⟩ : ∃ k, t.toNat = k := ⟨_, rfl⟩
    have hki : (k : Int) = t := by omega
    rw [hk]
    clear hk
    go_enter Tryd.func13, Tryd.ntmps13
    go_wp2
    go_ret
    refine ⟨?_, rfl⟩
    first | rfl | (rw [hki]; rfl)
end Go.Proofs.YtbfhglaaombglaaDoor
end
section
namespace Go.Proofs.YtbfhglaaombglaaDoor
set_option linter.unusedVariables false
set_option linter.unusedSimpArgs false
open Go.RowKit Go.Proofs.YtbfhglaaombglaaDoorW.PrintWords
/-- Pieces, as they are read. -/
def TkRd (w : World) (A : Option Addr) (c : Nat) (l : List Tk) : Prop :=
  (l.length ≤ c ∧ l.length ≤ 20000) ∧ c ≤ 9223372036854775807 ∧ (∀ t ∈ l, t.text.size ≤ 16384) ∧ (0 < l.length → ∃ g o, A = some ⟨g, o, none⟩ ∧ ∀ j t, l[j]? = some t →
    w.cell? ⟨g, o + j * 3, none⟩ = some (.int .i64 (t.kind : Int)) ∧ w.cell? ⟨g, o + j * 3 + 1, none⟩ = some (.string t.text) ∧ w.cell? ⟨g, o + j * 3 + 2, none⟩ = some (.int .i64 (t.at_ : Int)))
theorem TkRd.drop1 {w : World} {g o : Nat} {c : Nat} {l : List Tk} (h : TkRd w (some ⟨g, o, none⟩) c l) (hn : 0 < l.length) : TkRd w (if c = 1 then some ⟨g, o, none⟩ else (some (⟨g, o, none⟩ : Addr)).map (·.add (1 * 3))) (c - 1) l.tail := by
  obtain ⟨h1, h2, h3, h4⟩ := h
  refine ⟨⟨by rw [List.length_tail]; omega, by rw [List.length_tail]; omega⟩, by omega, fun t ht => h3 t (List.mem_of_mem_tail ht), fun hm => ?_⟩
  rw [List.length_tail] at hm
  obtain ⟨g', o', e, hc⟩ := h4 hn
  cases e
  rw [if_neg (by omega)]
  refine ⟨g, o + 3, by simp [Addr.add], fun j t hj => ?_⟩
  rw [List.getElem?_tail] at hj
  have := hc (j + 1) t hj
  rw [show o + 3 + j * 3 = o + (j + 1) * 3 by omega]
  exact this
/-- The parser at block p, within a call that began at w0, where the pieces lay already. -/
structure PS (w0 w : World) (p : Nat) (st : St) : Prop where
  par : ∃ A c, w.heap[p]? = some (.cells #[.slice A st.1.length c, .bool st.2] 54 (0, 0)) ∧ TkRd w0 A c st.1
  tab : Tabs w0
  bel : Below w0.heap.size w0 w
  hp : w0.heap.size ≤ p
theorem PS.tabs {w0 w : World} {p : Nat} {st : St} (h : PS w0 w p st) : Tabs w := tabs_below h.tab h.bel
theorem PS.lt {w0 w : World} {p : Nat} {st : St} (h : PS w0 w p st) : p < w.heap.size := by
  obtain ⟨A, c, hb, _⟩ := h.par
  exact blk_lt hb
theorem below_grownBy {w w1 : World} (hb : Below w.heap.size w w1) (row : Option Nat) : w.grownBy w1 row := ⟨hb.os, hb.tape, hb.output, hb.size, fun k hk _ => hb.block k hk⟩
theorem PS.below {w0 w w1 : World} {p : Nat} {st : St} (h : PS w0 w p st) (hb : Below w.heap.size w w1) : PS w0 w1 p st := by
  obtain ⟨A, c, hk, hr⟩ := h.par
  exact ⟨⟨A, c, (hb.block _ (blk_lt hk)).trans hk, hr⟩, h.tab, h.bel.trans (hb.mono h.bel.size), h.hp⟩
/-- A store elsewhere. -/
theorem PS.far {w0 w : World} {p : Nat} {st : St} (h : PS w0 w p st) {g : Nat} (hg : g ≠ p) (hl : w0.heap.size ≤ g) (j : Nat) (u : Value) : PS w0 (w.setCell ⟨g, j, none⟩ u) p st := by
  obtain ⟨A, c, hk, hr⟩ := h.par
  exact ⟨⟨A, c, (Below.heap_setCell _ _ _ _ (fun e => hg e.symm)).trans hk, hr⟩, h.tab, h.bel.setCell (p := ⟨g, j, none⟩) hl u, h.hp⟩
/-- Another block grew. -/
theorem PS.other {w0 w w1 : World} {p : Nat} {st : St} (h : PS w0 w p st) {row : Option Nat} (hg : w.grownBy w1 row) (hn : some p ≠ row) (hl : ∀ k, row = some k → w0.heap.size ≤ k) : PS w0 w1 p st := by
  obtain ⟨A, c, hk, hr⟩ := h.par
  exact ⟨⟨A, c, (hg.block p (blk_lt hk) hn).trans hk, hr⟩, h.tab, h.bel.grown hg h.bel.size hl, h.hp⟩
theorem PS.ch {w0 w w1 : World} {p : Nat} {st : St} (h : PS w0 w p st) (hg : w.grownBy w1 (some p)) : Below w0.heap.size w0 w1 :=
  h.bel.grown hg h.bel.size (fun k hk => by injection hk with hk; rw [← hk]; exact h.hp)
theorem grown_far {w w1 : World} {row : Option Nat} (h : w.grownBy w1 row) {g : Nat} (hg : w.heap.size ≤ g) (j : Nat) (u : Value) : w.grownBy (w1.setCell ⟨g, j, none⟩ u) row :=
  ⟨h.os, h.tape, h.output, by rw [World.size_setCell]; exact h.size, fun k hk hne => (Below.heap_setCell _ _ _ _ (fun e => by have e' : k = g := e; omega)).trans (h.block k hk hne)⟩
/-- One that did not fit. -/
theorem PS.bad {w0 w : World} {p : Nat} {st : St} (h : PS w0 w p st) : PS w0 (w.setCell ⟨p, 1, none⟩ (.bool true)) p (st.1, true) ∧ w.grownBy (w.setCell ⟨p, 1, none⟩ (.bool true)) (some p) := by
  obtain ⟨A, c, hk, hr⟩ := h.par
  have hg : w.grownBy (w.setCell ⟨p, 1, none⟩ (.bool true)) (some p) := ⟨rfl, rfl, rfl, by simp, fun k _ hne => Below.heap_setCell _ _ _ _ (fun e => hne (by rw [e]))⟩
  have h9 := blk_set hk 1 (.bool true)
  simp only [List.setIfInBounds_toArray, List.set_cons_zero, List.set_cons_succ] at h9
  exact ⟨⟨⟨A, c, h9, hr⟩, h.tab, h.ch hg, h.hp⟩, hg⟩
/-- The next piece is read. -/
theorem PS.next {w0 w : World} {p : Nat} {st : St} (h : PS w0 w p st) {g o c : Nat} (hk : w.heap[p]? = some (.cells #[.slice (some ⟨g, o, none⟩) st.1.length c, .bool st.2] 54 (0, 0))) (hr : TkRd w0 (some ⟨g, o, none⟩) c st.1) (hn : 0 < st.1.length)
    (A7 : Option Addr) (n7 c7 : Nat) (hv : (if c = 1 then some ⟨g, o, none⟩ else (some (⟨g, o, none⟩ : Addr)).map (·.add (1 * 3))) = A7 ∧ st.1.length - 1 = n7 ∧ c - 1 = c7) :
    PS w0 (w.setCell ⟨p, 0, none⟩ (.slice A7 n7 c7)) p (st.1.tail, st.2) ∧ w.grownBy (w.setCell ⟨p, 0, none⟩ (.slice A7 n7 c7)) (some p) := by
  obtain ⟨v, hv9⟩ : ∃ v, Value.slice A7 n7 c7 = v := ⟨_, rfl⟩
  rw [hv9]
  have hg : w.grownBy (w.setCell ⟨p, 0, none⟩ v) (some p) := ⟨rfl, rfl, rfl, by simp, fun k _ hne => Below.heap_setCell _ _ _ _ (fun e => hne (by rw [e]))⟩
  have h9 := blk_set hk 0 v
  simp only [List.setIfInBounds_toArray, List.set_cons_zero, List.set_cons_succ] at h9
  refine ⟨⟨⟨_, _, ?_, hr.drop1 hn⟩, h.tab, h.ch hg, h.hp⟩, hg⟩
  rw [h9, List.length_tail, hv.1, hv.2.1, hv.2.2, hv9]
theorem teq_walk (a b : ByteArray) (v : Bool) (h : teq a b = v) : (a.toList == b.toList) = v := by
  rw [← h, teq]
  by_cases e : a = b
  · subst e; simp
  · have h1 : ¬ bs a = bs b := fun h => e (bs_inj h)
    have h2 : ¬ a.toList = b.toList := by
      intro h2
      rw [ByteArray.toList_eq, ByteArray.toList_eq] at h2
      exact h1 (by rw [bs, bs, h2])
    rw [decide_eq_false h1, beq_eq_false_iff_ne]
    exact h2
/-- The head of what is left. -/
theorem PS.head {w0 w : World} {p : Nat} {k : Tk} {l : List Tk} {b : Bool} (h : PS w0 w p (k :: l, b)) : ∃ g o c, w.heap[p]? = some (.cells #[.slice (some ⟨g, o, none⟩) (l.length + 1) c, .bool b] 54 (0, 0)) ∧ TkRd w0 (some ⟨g, o, none⟩) c (k :: l) ∧ k.text.size ≤ 16384 ∧ l.length + 1 ≤ c ∧ c ≤ 9223372036854775807 ∧
    w.cell? ⟨g, o, none⟩ = some (.int .i64 (k.kind : Int)) ∧ w.cell? ⟨g, o + 1, none⟩ = some (.string k.text) ∧ w.cell? ⟨g, o + 2, none⟩ = some (.int .i64 (k.at_ : Int)) := by
  obtain ⟨A, c, hk, hr⟩ := h.par
  obtain ⟨g, o, rfl, hc⟩ := hr.2.2.2 (by simp)
  obtain ⟨a1, a2, a3⟩ := hc 0 k rfl
  replace a1 := pw_cell_below h.bel a1
  replace a2 := pw_cell_below h.bel a2
  replace a3 := pw_cell_below h.bel a3
  rw [Nat.zero_mul, Nat.add_zero] at a1 a2 a3
  exact ⟨g, o, c, hk, hr, hr.2.2.1 k (by simp), by simpa using hr.1.1, hr.2.1, a1, a2, a3⟩
theorem PS.emp {w0 w : World} {p : Nat} {b : Bool} (h : PS w0 w p ([], b)) : ∃ A c, w.heap[p]? = some (.cells #[.slice A 0 c, .bool b] 54 (0, 0)) := by
  obtain ⟨A, c, hk, _⟩ := h.par
  exact ⟨A, c, hk⟩
theorem PS.len {w0 w : World} {p : Nat} {st : St} (h : PS w0 w p st) : st.1.length ≤ 20000 := by
  obtain ⟨A, c, _, hr⟩ := h.par
  exact hr.1.2
/-- How much is left to be done, out of memory. -/
def muW (w : World) (p : Nat) : Nat := match w.cell? ⟨p, 0, none⟩, w.cell? ⟨p, 1, none⟩ with
  | some (.slice _ n _), some (.bool b) => if b then 0 else n + 1
  | _, _ => 0
theorem PS.mu {w0 w : World} {p : Nat} {st : St} (h : PS w0 w p st) : muW w p = mu st := by
  obtain ⟨A, c, hk, _⟩ := h.par
  have c0 : w.cell? ⟨p, 0, none⟩ = some (.slice A st.1.length c) := blk_cell hk 0
  have c1 : w.cell? ⟨p, 1, none⟩ = some (.bool st.2) := blk_cell hk 1
  rw [muW, c0, c1]
  rfl
theorem PS.wrong {w0 w : World} {p : Nat} {st : St} (h : PS w0 w p st) : ∃ v, w.heap[p]? = some (.cells #[v, .bool st.2] 54 (0, 0)) := by
  obtain ⟨A, c, hk, _⟩ := h.par
  exact ⟨_, hk⟩
set_option maxRecDepth 100000 in
theorem looks_any (w0 w : World) (p : Nat) (st : St) (H : Aside0 (PS w0 w p st)) (t : ByteArray) (v : Bool) (hv : Aside0 (takesB t st = v)) :
    Calls Tryd.prog 53 #[.pointer (some ⟨p, 0, none⟩), .string t] w fun e w' => e = .returned (.bool v) ∧ w = w' := by
  obtain ⟨l, b⟩ := st
  cases b with
  | true =>
    obtain ⟨v9, hk⟩ := H.out.wrong
    have c1 : w.cell? ⟨p, 1, none⟩ = some (.bool true) := blk_cell hk 1
    obtain rfl : v = false := hv.out.symm
    clear hk hv
    go_enter Tryd.func53, Tryd.ntmps53
    go_wp2
    go_ret
    exact ⟨rfl, rfl⟩
  | false =>
    cases l with
    | nil =>
      obtain ⟨A, c, hk⟩ := H.out.emp
      have c0 : w.cell? ⟨p, 0, none⟩ = some (.slice A 0 c) := blk_cell hk 0
      have c1 : w.cell? ⟨p, 1, none⟩ = some (.bool false) := blk_cell hk 1
      obtain rfl : v = false := hv.out.symm
      clear hk hv
      go_enter Tryd.func53, Tryd.ntmps53
      go_wp2
      go_ret
      exact ⟨rfl, rfl⟩
    | cons k l =>
      obtain ⟨g, o, c, hk, _, _, hlc, hcm, a1, a2, a3⟩ := H.out.head
      have c0 : w.cell? ⟨p, 0, none⟩ = some (.slice (some ⟨g, o, none⟩) (l.length + 1) c) := blk_cell hk 0
      have c1 : w.cell? ⟨p, 1, none⟩ = some (.bool false) := blk_cell hk 1
      obtain ⟨n, hn⟩ : ∃ n, l.length + 1 = n := ⟨_, rfl⟩
      have hn0 : 0 < n := by omega
      have hn1 : (0 : Int) < (n : Int) := by omega
      have d1 : decide ((0 : Int) < (n : Int)) = true := decide_eq_true hn1
      have d2 : decide (0 < n) = true := decide_eq_true hn0
      rw [hn] at c0
      have ht := teq_walk k.text t v hv.out
      clear hk hv hn hlc a1 a3
      go_enter Tryd.func53, Tryd.ntmps53
      go_wp2
      go_ret
      exact ⟨rfl, rfl⟩
set_option maxRecDepth 100000 in
theorem takes_any (w0 w : World) (p : Nat) (st : St) (H : Aside0 (PS w0 w p st)) (t : ByteArray) (v : Bool) (hv : Aside0 (takesB t st = v)) :
    Calls Tryd.prog 34 #[.pointer (some ⟨p, 0, none⟩), .string t] w fun e w' => e = .returned (.bool v) ∧ Aside0 (PS w0 w' p (takesM t st)) ∧ Aside0 (w.grownBy w' (some p)) := by
  cases v with
  | false =>
    go_enter Tryd.func34, Tryd.ntmps34
    go_wp2_with fail
    refine (looks_any w0 w p st H t false hv).mono ?_
    rintro e w' ⟨rfl, rfl⟩
    go_wp2_with fail
    go_ret
    refine ⟨rfl, ⟨?_⟩, ⟨World.grownBy.refl _ _⟩⟩
    rw [takesM, if_neg (by rw [hv.out]; decide)]
    exact H.out
  | true =>
    obtain ⟨l, b⟩ := st
    obtain ⟨rfl, hne⟩ := takes_some hv.out
    cases l with
    | nil => exact absurd rfl hne
    | cons k l =>
      obtain ⟨g, o, c, hk, hr, _, hlc, hcm, _, _, _⟩ := H.out.head
      have HK := Aside0.mk hk
      have HR := Aside0.mk hr
      have c0 : w.cell? ⟨p, 0, none⟩ = some (.slice (some ⟨g, o, none⟩) (l.length + 1) c) := blk_cell hk 0
      obtain ⟨i1, hi1, _, hsz1, _⟩ := info_parts infoTok
      have hcut := cut_from (P := Tryd.prog) 49 59 .i64 Tryd.underlying49 hi1 3 hsz1 (some ⟨g, o, none⟩) (l.length + 1) c 1 (by omega) (by omega)
      obtain ⟨A7, hA7⟩ : ∃ A, (if c = 1 then some (⟨g, o, none⟩ : Addr) else (some (⟨g, o, none⟩ : Addr)).map (·.add (1 * 3))) = A := ⟨_, rfl⟩
      obtain ⟨n7, hn7⟩ : ∃ n7, l.length + 1 - 1 = n7 := ⟨_, rfl⟩
      obtain ⟨c7, hc7⟩ : ∃ c7, c - 1 = c7 := ⟨_, rfl⟩
      have HV := Aside0.mk (show _ ∧ ((k :: l, false) : St).1.length - 1 = n7 ∧ _ from ⟨hA7, hn7, hc7⟩)
      rw [show ((1 : Int)).toNat = 1 from rfl, hA7, hn7, hc7] at hcut
      obtain ⟨n, hn⟩ : ∃ n, l.length + 1 = n := ⟨_, rfl⟩
      rw [hn] at hcut c0
      have z0 := blk_frozen hk 0
      clear hk hr hA7 hn7 hc7 hn hi1 hsz1 hne hlc
      go_enter Tryd.func34, Tryd.ntmps34
      go_wp2_with fail
      refine (looks_any w0 w p _ H t true hv).mono ?_
      rintro e w' ⟨rfl, rfl⟩
      go_wp2_with fail
      go_ret
      obtain ⟨h1, h2⟩ := H.out.next HK.out HR.out (by simp) A7 n7 c7 HV.out
      refine ⟨rfl, ⟨?_⟩, ⟨h2⟩⟩
      rw [takesM, if_pos hv.out]
      exact h1
end Go.Proofs.YtbfhglaaombglaaDoor
end
section
namespace Go.Proofs.YtbfhglaaombglaaDoor
set_option linter.unusedVariables false
set_option linter.unusedSimpArgs false
open Go.RowKit Go.Proofs.YtbfhglaaombglaaDoorW.PrintWords
/-- The next pieces have to be these. -/
def needAll (ts : List ByteArray) (st : St) : St := ts.foldl (fun s t => need t s) st
theorem needAll_snoc (ts : List ByteArray) (t : ByteArray) (st : St) : needAll (ts ++ [t]) st = need t (needAll ts st) := by simp [needAll]
theorem grown_block {w w1 : World} {g p : Nat} {o : Obj} (hg : w.grownBy w1 (some p)) (h : w.heap[g]? = some o) (hne : g ≠ p) : w1.heap[g]? = some o :=
  (hg.block g (Array.getElem?_eq_some_iff.1 h).1 (fun e => hne (Option.some.inj e))).trans h
set_option maxRecDepth 100000 in
set_option maxHeartbeats 400000 in
theorem needs_any (w0 w : World) (p : Nat) (st : St) (H : Aside0 (PS w0 w p st)) (g : Nat) (ts : List ByteArray) (hk : Aside0 (w.heap[g]? = some (.cells (ts.map Value.string).toArray 9 (0, 0)))) (hgp : g ≠ p) (hn : ts.length ≤ 10) :
    Calls Tryd.prog 32 #[.pointer (some ⟨p, 0, none⟩), .slice (some ⟨g, 0, none⟩) ts.length ts.length] w fun e w' => e = .returned (.tuple #[]) ∧ Aside0 (PS w0 w' p (needAll ts st)) ∧ Aside0 (w.grownBy w' (some p)) := by
  have HG := Aside0.mk hgp
  clear hgp
  go_enter Tryd.func32, Tryd.ntmps32
  go_wp2_with fail
  go_loopw [8] (fun u wr => ∃ j : Nat, u = .int .i64 (j : Int) ∧ j ≤ ts.length ∧ Aside0 (PS w0 wr p (needAll (ts.take j) st)) ∧ Aside0 (w.grownBy wr (some p))) (fun u _ => ts.length - (intOf u).toNat)
  case atStart => exact ⟨0, rfl, Nat.zero_le _, ⟨by rw [List.take_zero]; exact H.out⟩, ⟨World.grownBy.refl _ _⟩⟩
  case round =>
    obtain ⟨j, rfl, hj, HP, HB⟩ := hrel
    by_cases hlt : j < ts.length
    · have d1 : decide ((j : Int) < (ts.length : Int)) = true := decide_eq_true (by omega)
      have d2 : decide (j < ts.length) = true := decide_eq_true hlt
      have d3 : (j : Int) < (ts.length : Int) := by omega
      obtain ⟨t, ht⟩ : ∃ t, ts[j]? = some t := ⟨_, List.getElem?_eq_getElem hlt⟩
      have hk9 := grown_block HB.out hk.out HG.out
      have c0 : wr.cell? ⟨g, j, none⟩ = some (.string t) := by rw [blk_cell hk9]; simp [ht]
      have hta : ts.take (j + 1) = ts.take j ++ [t] := by rw [List.take_add_one, ht]; rfl
      have HTA := Aside0.mk hta
      clear hk9 ht hta
      obtain ⟨s1, hs1⟩ : ∃ s1, needAll (ts.take j) st = s1 := ⟨_, rfl⟩
      rw [hs1] at HP
      have HS1 := Aside0.mk hs1
      clear hs1
      cases hv : takesB t s1 with
      | true =>
        have HV := Aside0.mk hv
        clear hv
        go_wp2_with fail
        refine (takes_any w0 wr p s1 HP t true HV).mono ?_
        rintro e w2 ⟨rfl, HP2, HB2⟩
        have HB3 := Aside0.mk (HB.out.trans HB2.out)
        have HP3 : Aside0 (PS w0 w2 p (needAll (ts.take (j + 1)) st)) := ⟨by
          rw [HTA.out, needAll_snoc, HS1.out, need, if_pos HV.out]
          have h9 := HP2.out
          rw [takesM, if_pos HV.out] at h9
          exact h9⟩
        go_wp2_with fail
        go_roundw
        case rel => exact ⟨j + 1, by go_num, by omega, HP3, HB3⟩
        case measure => simp [intOf]; omega
      | false =>
        have HV := Aside0.mk hv
        clear hv
        go_wp2_with fail
        refine (takes_any w0 wr p s1 HP t false HV).mono ?_
        rintro e w2 ⟨rfl, HP2, HB2⟩
        have h9 := HP2.out
        rw [takesM, if_neg (by rw [HV.out]; decide)] at h9
        obtain ⟨v9, hk9⟩ := h9.wrong
        have c1 : w2.cell? ⟨p, 1, none⟩ = some (.bool s1.2) := blk_cell hk9 1
        have z1 := blk_frozen hk9 1
        obtain ⟨h1, h2⟩ := h9.bad
        have HB3 := Aside0.mk ((HB.out.trans HB2.out).trans h2)
        have HP3 : Aside0 (PS w0 (w2.setCell ⟨p, 1, none⟩ (.bool true)) p (needAll (ts.take (j + 1)) st)) := ⟨by
          rw [HTA.out, needAll_snoc, HS1.out, need, if_neg (by rw [HV.out]; decide)]
          exact h1⟩
        clear h9 hk9 h1 h2
        go_wp2_with fail
        go_roundw
        case rel => exact ⟨j + 1, by go_num, by omega, HP3, HB3⟩
        case measure => simp [intOf]; omega
    · have d1 : decide ((j : Int) < (ts.length : Int)) = false := decide_eq_false (by omega)
      have d2 : decide (j < ts.length) = false := decide_eq_false hlt
      have HPE : Aside0 (PS w0 wr p (needAll ts st)) := ⟨by
        have h9 := HP.out
        rw [List.take_of_length_le (by omega)] at h9
        exact h9⟩
      go_wp2_with fail
      go_end0
      exact ⟨rfl, HPE, HB⟩
/-- Behind a literal of texts. -/
theorem needs_lit (w0 w : World) (p : Nat) (st : St) (H : Aside0 (PS w0 w p st)) (ts : List ByteArray) (hn : ts.length ≤ 10) (s2 : St) (hs : Aside0 (needAll ts st = s2)) (cs : Array Value) (hc : cs = (ts.map Value.string).toArray) (n : Nat) (hl : n = ts.length) :
    Calls Tryd.prog 32 #[.pointer (some ⟨p, 0, none⟩), .slice (some ⟨w.heap.size, 0, none⟩) n n] (w.alloc (.cells cs 9)) fun e w' => e = .returned (.tuple #[]) ∧ Aside0 (PS w0 w' p s2) ∧ Aside0 (w.grownBy w' (some p)) := by
  subst hl
  refine (needs_any w0 _ p st ⟨H.out.below ((Below.refl _ _).alloc (Nat.le_refl _) _)⟩ w.heap.size ts ⟨by rw [heap_alloc_new, hc]⟩ (fun e => by have := H.out.lt; omega) hn).mono ?_
  rintro e w' ⟨rfl, h1, h2⟩
  rw [hs.out] at h1
  exact ⟨rfl, h1, ⟨(World.grownBy_alloc w _ _).trans h2.out⟩⟩
set_option maxRecDepth 100000 in
set_option maxHeartbeats 400000 in
theorem pname_any (w0 w : World) (p : Nat) (st : St) (H : Aside0 (PS w0 w p st)) (v : ByteArray) (hv : Aside0 (nameV st = v)) (s2 : St) (hs : Aside0 (nameM st = s2)) :
    Calls Tryd.prog 33 #[.pointer (some ⟨p, 0, none⟩)] w fun e w' => e = .returned (.string v) ∧ Aside0 (PS w0 w' p s2) ∧ Aside0 (w.grownBy w' (some p)) := by
  cases hok : nameOk st with
  | false =>
    have hv0 : v = ⟨#[]⟩ := by rw [← hv.out, nameV, if_neg (by rw [hok]; decide)]; rfl
    have hs0 : s2 = (st.1, true) := by rw [← hs.out, nameM, if_neg (by rw [hok]; decide)]
    subst hv0 hs0
    obtain ⟨v9, hk9⟩ := H.out.wrong
    have c1 : w.cell? ⟨p, 1, none⟩ = some (.bool st.2) := blk_cell hk9 1
    have z1 := blk_frozen hk9 1
    obtain ⟨h1, h2⟩ := H.out.bad
    have HP := Aside0.mk h1
    have HB := Aside0.mk h2
    clear h1 h2 hs hv
    obtain ⟨l, b⟩ := st
    cases b with
    | true =>
      clear hk9 hok
      go_enter Tryd.func33, Tryd.ntmps33
      go_wp2_with fail
      go_ret
      exact ⟨rfl, HP, HB⟩
    | false =>
      cases l with
      | nil =>
        obtain ⟨A, c, hk⟩ := H.out.emp
        have c0 : w.cell? ⟨p, 0, none⟩ = some (.slice A 0 c) := blk_cell hk 0
        clear hk hk9 hok
        go_enter Tryd.func33, Tryd.ntmps33
        go_wp2_with fail
        go_ret
        exact ⟨rfl, HP, HB⟩
      | cons k l =>
        obtain ⟨g, o, c, hk, _, hts, hlc, hcm, a1, a2, a3⟩ := H.out.head
        have c0 : w.cell? ⟨p, 0, none⟩ = some (.slice (some ⟨g, o, none⟩) (l.length + 1) c) := blk_cell hk 0
        obtain ⟨n, hn⟩ : ∃ n, l.length + 1 = n := ⟨_, rfl⟩
        have hn0 : 0 < n := by omega
        have hn1 : (0 : Int) < (n : Int) := by omega
        have d1 : ((n : Int) == 0) = false := by rw [beq_eq_false_iff_ne]; omega
        have d2 : (n == 0) = false := by rw [beq_eq_false_iff_ne]; omega
        rw [hn] at c0
        have hok2 : (k.kind == 1 && nameG k.text) = false := hok
        clear hk hk9 hn hlc a3 hok
        by_cases hk1 : k.kind = 1
        · have hng : nameG k.text = false := by rw [hk1] at hok2; simpa using hok2
          have HT := Aside0.mk H.out.tabs
          have d3 : ((k.kind : Int) != 1) = false := by rw [hk1]; rfl
          have HNG := Aside0.mk hng
          clear hok2 hk1 hng
          go_enter Tryd.func33, Tryd.ntmps33
          go_wp2_with fail
          refine (name_any k.text w (by omega) HT.out false HNG).mono ?_
          rintro e w1 ⟨rfl, hb1⟩
          have h0 := H.out.below hb1
          obtain ⟨v9, hk9⟩ := h0.wrong
          have c9 : w1.cell? ⟨p, 1, none⟩ = some (.bool false) := blk_cell hk9 1
          have z9 := blk_frozen hk9 1
          obtain ⟨h1, h2⟩ := h0.bad
          have HP1 := Aside0.mk h1
          have HB1 := Aside0.mk ((below_grownBy hb1 (some p)).trans h2)
          clear h0 hk9 h1 h2 hb1
          go_wp2_with fail
          go_ret
          exact ⟨rfl, HP1, HB1⟩
        · have d3 : ((k.kind : Int) != 1) = true := by rw [bne_iff_ne]; omega
          clear hok2 hk1
          go_enter Tryd.func33, Tryd.ntmps33
          go_wp2_with fail
          go_ret
          exact ⟨rfl, HP, HB⟩
  | true =>
    obtain ⟨l, b⟩ := st
    obtain ⟨rfl, hne⟩ := name_some hok
    cases l with
    | nil => exact absurd rfl hne
    | cons k l =>
      have hv0 : v = k.text := by rw [← hv.out, nameV, if_pos hok]; rfl
      have hs0 : s2 = (l, false) := by rw [← hs.out, nameM, if_pos hok]; rfl
      subst hv0 hs0
      obtain ⟨g, o, c, hk, _, hts, hlc, hcm, a1, a2, a3⟩ := H.out.head
      have c0 : w.cell? ⟨p, 0, none⟩ = some (.slice (some ⟨g, o, none⟩) (l.length + 1) c) := blk_cell hk 0
      have c1 : w.cell? ⟨p, 1, none⟩ = some (.bool false) := blk_cell hk 1
      obtain ⟨n, hn⟩ : ∃ n, l.length + 1 = n := ⟨_, rfl⟩
      have hn0 : 0 < n := by omega
      have hn1 : (0 : Int) < (n : Int) := by omega
      have d1 : ((n : Int) == 0) = false := by rw [beq_eq_false_iff_ne]; omega
      have d2 : (n == 0) = false := by rw [beq_eq_false_iff_ne]; omega
      rw [hn] at c0
      have hok2 : (k.kind == 1 && nameG k.text) = true := hok
      rw [Bool.and_eq_true, beq_iff_eq] at hok2
      obtain ⟨hk1, hng⟩ := hok2
      have HT := Aside0.mk H.out.tabs
      have d3 : ((k.kind : Int) != 1) = false := by rw [hk1]; rfl
      have HNG := Aside0.mk hng
      have HN := Aside0.mk hn
      clear hok hk1 hng hk hn a3 hv hs hne
      go_enter Tryd.func33, Tryd.ntmps33
      go_wp2_with fail
      refine (name_any k.text w (by omega) HT.out true HNG).mono ?_
      rintro e w1 ⟨rfl, hb1⟩
      have H1 := Aside0.mk (H.out.below hb1)
      have HB1 := Aside0.mk (below_grownBy hb1 (some p))
      clear hb1 c0 c1 a1 a2 hlc hcm d1 d2 d3 hn0 hn1
      obtain ⟨g1, o1, c1, hk, hr, _, hlc, hcm, a1, a2, a3⟩ := H1.out.head
      have HK := Aside0.mk hk
      have HR := Aside0.mk hr
      have c0 : w1.cell? ⟨p, 0, none⟩ = some (.slice (some ⟨g1, o1, none⟩) (l.length + 1) c1) := blk_cell hk 0
      obtain ⟨i1, hi1, _, hsz1, _⟩ := info_parts infoTok
      have hcut := cut_from (P := Tryd.prog) 49 59 .i64 Tryd.underlying49 hi1 3 hsz1 (some ⟨g1, o1, none⟩) (l.length + 1) c1 1 (by omega) (by omega)
      obtain ⟨A7, hA7⟩ : ∃ A, (if c1 = 1 then some (⟨g1, o1, none⟩ : Addr) else (some (⟨g1, o1, none⟩ : Addr)).map (·.add (1 * 3))) = A := ⟨_, rfl⟩
      obtain ⟨n7, hn7⟩ : ∃ n7, l.length + 1 - 1 = n7 := ⟨_, rfl⟩
      obtain ⟨c7, hc7⟩ : ∃ c7, c1 - 1 = c7 := ⟨_, rfl⟩
      have HV := Aside0.mk (show _ ∧ ((k :: l, false) : St).1.length - 1 = n7 ∧ _ from ⟨hA7, hn7, hc7⟩)
      rw [show ((1 : Int)).toNat = 1 from rfl, hA7, hn7, hc7] at hcut
      rw [HN.out] at hcut c0
      have hn0 : 0 < n := by have := HN.out; omega
      have hn1 : (0 : Int) < (n : Int) := by omega
      have z0 := blk_frozen hk 0
      clear hk hr hA7 hn7 hc7 hi1 hsz1 hlc a1 a3
      go_wp2_with fail
      go_ret
      obtain ⟨h1, h2⟩ := H1.out.next HK.out HR.out (by simp) A7 n7 c7 HV.out
      exact ⟨rfl, ⟨h1⟩, ⟨HB1.out.trans h2⟩⟩
set_option maxRecDepth 100000 in
set_option maxHeartbeats 400000 in
theorem pnumber_any (w0 w : World) (p : Nat) (st : St) (H : Aside0 (PS w0 w p st)) (v : Nat) (hv : Aside0 (numV st = v)) (s2 : St) (hs : Aside0 (numM st = s2)) :
    Calls Tryd.prog 54 #[.pointer (some ⟨p, 0, none⟩)] w fun e w' => e = .returned (.int .i64 (v : Int)) ∧ Aside0 (PS w0 w' p s2) ∧ Aside0 (w.grownBy w' (some p)) := by
  cases hok : numOk st with
  | false =>
    have hv0 : v = 0 := by rw [← hv.out, numV, if_neg (by rw [hok]; decide)]
    have hs0 : s2 = (st.1, true) := by rw [← hs.out, numM, if_neg (by rw [hok]; decide)]
    subst hv0 hs0
    obtain ⟨v9, hk9⟩ := H.out.wrong
    have c1 : w.cell? ⟨p, 1, none⟩ = some (.bool st.2) := blk_cell hk9 1
    have z1 := blk_frozen hk9 1
    obtain ⟨h1, h2⟩ := H.out.bad
    have HP := Aside0.mk h1
    have HB := Aside0.mk h2
    clear h1 h2 hs hv
    obtain ⟨l, b⟩ := st
    cases b with
    | true =>
      clear hk9 hok
      go_enter Tryd.func54, Tryd.ntmps54
      go_wp2_with fail
      go_ret
      exact ⟨rfl, HP, HB⟩
    | false =>
      cases l with
      | nil =>
        obtain ⟨A, c, hk⟩ := H.out.emp
        have c0 : w.cell? ⟨p, 0, none⟩ = some (.slice A 0 c) := blk_cell hk 0
        clear hk hk9 hok
        go_enter Tryd.func54, Tryd.ntmps54
        go_wp2_with fail
        go_ret
        exact ⟨rfl, HP, HB⟩
      | cons k l =>
        obtain ⟨g, o, c, hk, _, hts, hlc, hcm, a1, a2, a3⟩ := H.out.head
        have c0 : w.cell? ⟨p, 0, none⟩ = some (.slice (some ⟨g, o, none⟩) (l.length + 1) c) := blk_cell hk 0
        obtain ⟨n, hn⟩ : ∃ n, l.length + 1 = n := ⟨_, rfl⟩
        have hn0 : 0 < n := by omega
        have hn1 : (0 : Int) < (n : Int) := by omega
        have d1 : ((n : Int) == 0) = false := by rw [beq_eq_false_iff_ne]; omega
        have d2 : (n == 0) = false := by rw [beq_eq_false_iff_ne]; omega
        rw [hn] at c0
        have hok2 : (k.kind == 2 && (numF k.text).2) = false := hok
        clear hk hk9 hn hlc a3 hok
        by_cases hk1 : k.kind = 2
        · obtain ⟨x, y, hxy⟩ : ∃ x y, numF k.text = (x, y) := ⟨_, _, rfl⟩
          have hng : y = false := by rw [hk1, hxy] at hok2; simpa using hok2
          subst hng
          have d3 : ((k.kind : Int) != 2) = false := by rw [hk1]; rfl
          have HNG := Aside0.mk hxy
          clear hok2 hk1 hxy
          go_enter Tryd.func54, Tryd.ntmps54
          go_wp2_with fail
          refine (number_any k.text w (by omega) x false HNG).mono ?_
          rintro e w1 ⟨rfl, hb1⟩
          have h0 := H.out.below hb1.out
          obtain ⟨v9, hk9⟩ := h0.wrong
          have c9 : w1.cell? ⟨p, 1, none⟩ = some (.bool false) := blk_cell hk9 1
          have z9 := blk_frozen hk9 1
          obtain ⟨h1, h2⟩ := h0.bad
          have HP1 := Aside0.mk h1
          have HB1 := Aside0.mk ((below_grownBy hb1.out (some p)).trans h2)
          clear h0 hk9 h1 h2 hb1
          go_wp2_with fail
          go_ret
          exact ⟨rfl, HP1, HB1⟩
        · have d3 : ((k.kind : Int) != 2) = true := by rw [bne_iff_ne]; omega
          clear hok2 hk1
          go_enter Tryd.func54, Tryd.ntmps54
          go_wp2_with fail
          go_ret
          exact ⟨rfl, HP, HB⟩
  | true =>
    obtain ⟨l, b⟩ := st
    obtain ⟨rfl, hne⟩ := num_some hok
    cases l with
    | nil => exact absurd rfl hne
    | cons k l =>
      have hok2 : (k.kind == 2 && (numF k.text).2) = true := hok
      rw [Bool.and_eq_true, beq_iff_eq] at hok2
      obtain ⟨hk1, hng⟩ := hok2
      obtain ⟨x, y, hxy⟩ : ∃ x y, numF k.text = (x, y) := ⟨_, _, rfl⟩
      rw [hxy] at hng
      simp only at hng
      subst hng
      have hv0 : v = x := by rw [← hv.out, numV, if_pos hok]; show (numF k.text).1 = x; rw [hxy]
      have hs0 : s2 = (l, false) := by rw [← hs.out, numM, if_pos hok]; rfl
      subst hv0 hs0
      obtain ⟨g, o, c, hk, _, hts, hlc, hcm, a1, a2, a3⟩ := H.out.head
      have c0 : w.cell? ⟨p, 0, none⟩ = some (.slice (some ⟨g, o, none⟩) (l.length + 1) c) := blk_cell hk 0
      have c1 : w.cell? ⟨p, 1, none⟩ = some (.bool false) := blk_cell hk 1
      obtain ⟨n, hn⟩ : ∃ n, l.length + 1 = n := ⟨_, rfl⟩
      have hn0 : 0 < n := by omega
      have hn1 : (0 : Int) < (n : Int) := by omega
      have d1 : ((n : Int) == 0) = false := by rw [beq_eq_false_iff_ne]; omega
      have d2 : (n == 0) = false := by rw [beq_eq_false_iff_ne]; omega
      rw [hn] at c0
      have d3 : ((k.kind : Int) != 2) = false := by rw [hk1]; rfl
      have HNG := Aside0.mk hxy
      have HN := Aside0.mk hn
      clear hok hk1 hxy hk hn a3 hv hs hne
      go_enter Tryd.func54, Tryd.ntmps54
      go_wp2_with fail
      refine (number_any k.text w (by omega) v true HNG).mono ?_
      rintro e w1 ⟨rfl, hb1⟩
      have H1 := Aside0.mk (H.out.below hb1.out)
      have HB1 := Aside0.mk (below_grownBy hb1.out (some p))
      clear hb1 c0 c1 a1 a2 hlc hcm d1 d2 d3 hn0 hn1
      obtain ⟨g1, o1, c1, hk, hr, _, hlc, hcm, a1, a2, a3⟩ := H1.out.head
      have HK := Aside0.mk hk
      have HR := Aside0.mk hr
      have c0 : w1.cell? ⟨p, 0, none⟩ = some (.slice (some ⟨g1, o1, none⟩) (l.length + 1) c1) := blk_cell hk 0
      obtain ⟨i1, hi1, _, hsz1, _⟩ := info_parts infoTok
      have hcut := cut_from (P := Tryd.prog) 49 59 .i64 Tryd.underlying49 hi1 3 hsz1 (some ⟨g1, o1, none⟩) (l.length + 1) c1 1 (by omega) (by omega)
      obtain ⟨A7, hA7⟩ : ∃ A, (if c1 = 1 then some (⟨g1, o1, none⟩ : Addr) else (some (⟨g1, o1, none⟩ : Addr)).map (·.add (1 * 3))) = A := ⟨_, rfl⟩
      obtain ⟨n7, hn7⟩ : ∃ n7, l.length + 1 - 1 = n7 := ⟨_, rfl⟩
      obtain ⟨c7, hc7⟩ : ∃ c7, c1 - 1 = c7 := ⟨_, rfl⟩
      have HV := Aside0.mk (show _ ∧ ((k :: l, false) : St).1.length - 1 = n7 ∧ _ from ⟨hA7, hn7, hc7⟩)
      rw [show ((1 : Int)).toNat = 1 from rfl, hA7, hn7, hc7] at hcut
      rw [HN.out] at hcut c0
      have z0 := blk_frozen hk 0
      clear hk hr hA7 hn7 hc7 hi1 hsz1 hlc a1 a2 a3
      go_wp2_with fail
      go_ret
      obtain ⟨h1, h2⟩ := H1.out.next HK.out HR.out (by simp) A7 n7 c7 HV.out
      exact ⟨rfl, ⟨h1⟩, ⟨HB1.out.trans h2⟩⟩
end Go.Proofs.YtbfhglaaombglaaDoor
end
section
namespace Go.Proofs.YtbfhglaaombglaaDoor
set_option linter.unusedVariables false
set_option linter.unusedSimpArgs false
open Go.RowKit Go.Proofs.YtbfhglaaombglaaDoorW.PrintWords
theorem results_cell {fn : Func} {p : Tmp} {ty : TypeId} (h : fn.results = #[.cell p ty]) (tmps : Array Value) (P : Program) (w : World) :
    (results fn tmps).run P w = ((asAddr (tmps.getD p undef)).run P w).andThen fun a w₁ => (loadVar ty a).run P w₁ := by
  simp only [results, h]
  simp [Sem.run_bind, Result.andThen]
def NoW (st : St) (j : Nat) : Prop := (1 ≤ j → takesB w_int32 st = false) ∧ (2 ≤ j → takesB w_int64 st = false) ∧ (3 ≤ j → takesB w_bool st = false) ∧ (4 ≤ j → takesB w_text st = false) ∧ (5 ≤ j → takesB w_bytes st = false)
theorem takes_no (w0 w : World) (p : Nat) (st : St) (H : Aside0 (PS w0 w p st)) (t : ByteArray) (hv : Aside0 (takesB t st = false)) :
    Calls Tryd.prog 34 #[.pointer (some ⟨p, 0, none⟩), .string t] w fun e w' => e = .returned (.bool false) ∧ w = w' := by
  go_enter Tryd.func34, Tryd.ntmps34
  go_wp2_with fail
  refine (looks_any w0 w p st H t false hv).mono ?_
  rintro e w' ⟨rfl, rfl⟩
  go_wp2_with fail
  go_ret
  exact ⟨rfl, rfl⟩
theorem takes_yes (w0 w : World) (p : Nat) (st : St) (H : Aside0 (PS w0 w p st)) (t : ByteArray) (hv : Aside0 (takesB t st = true)) (s2 : St) (hs : Aside0 ((st.1.tail, st.2) = s2)) :
    Calls Tryd.prog 34 #[.pointer (some ⟨p, 0, none⟩), .string t] w fun e w' => e = .returned (.bool true) ∧ Aside0 (PS w0 w' p s2) ∧ Aside0 (w.grownBy w' (some p)) := by
  refine (takes_any w0 w p st H t true hv).mono ?_
  rintro e w' ⟨rfl, h1, h2⟩
  rw [takesM, if_pos hv.out, hs.out] at h1
  exact ⟨rfl, h1, h2⟩
theorem scal_1 (st : St) (h : takesB w_int32 st = true) : scal st = 1 := by
  unfold scal
  rw [if_pos h]
theorem scal_2 (st : St) (h0 : takesB w_int32 st = false) (h : takesB w_int64 st = true) : scal st = 2 := by
  unfold scal
  rw [if_neg (by rw [h0]; decide), if_pos h]
theorem scal_3 (st : St) (h0 : takesB w_int32 st = false) (h1 : takesB w_int64 st = false) (h : takesB w_bool st = true) : scal st = 3 := by
  unfold scal
  rw [if_neg (by rw [h0]; decide), if_neg (by rw [h1]; decide), if_pos h]
theorem scal_4 (st : St) (h0 : takesB w_int32 st = false) (h1 : takesB w_int64 st = false) (h2 : takesB w_bool st = false) (h : takesB w_text st = true) : scal st = 4 := by
  unfold scal
  rw [if_neg (by rw [h0]; decide), if_neg (by rw [h1]; decide), if_neg (by rw [h2]; decide), if_pos h]
theorem scal_5 (st : St) (h0 : takesB w_int32 st = false) (h1 : takesB w_int64 st = false) (h2 : takesB w_bool st = false) (h3 : takesB w_text st = false) (h : takesB w_bytes st = true) : scal st = 5 := by
  unfold scal
  rw [if_neg (by rw [h0]; decide), if_neg (by rw [h1]; decide), if_neg (by rw [h2]; decide), if_neg (by rw [h3]; decide), if_pos h]
theorem scal_0 (st : St) (h0 : takesB w_int32 st = false) (h1 : takesB w_int64 st = false) (h2 : takesB w_bool st = false) (h3 : takesB w_text st = false) (h4 : takesB w_bytes st = false) : scal st = 0 := by
  unfold scal
  rw [if_neg (by rw [h0]; decide), if_neg (by rw [h1]; decide), if_neg (by rw [h2]; decide), if_neg (by rw [h3]; decide), if_neg (by rw [h4]; decide)]
set_option maxRecDepth 100000 in
set_option maxHeartbeats 2000000 in
theorem kind_any (w0 w : World) (p : Nat) (st : St) (H : Aside0 (PS w0 w p st)) (k : Nat) (hk : Aside0 (kk7 (scal st) = k)) (n : ByteArray) (hn : Aside0 (kindN st = n)) (s2 : St) (hs : Aside0 (kindM st = s2)) :
    Calls Tryd.prog 66 #[.pointer (some ⟨p, 0, none⟩)] w fun e w' => e = .returned (.agg #[.int .i64 (k : Int), .string n]) ∧ Aside0 (PS w0 w' p s2) ∧ Aside0 (w.grownBy w' (some p)) := by
  have HA := Aside0.mk (H.out.below ((Below.refl w.heap.size w).alloc (Nat.le_refl _) (.cells #[.int .i64 0, .string ⟨#[]⟩] 41)))
  have HG := Aside0.mk (World.grownBy_alloc w (.cells #[.int .i64 0, .string ⟨#[]⟩] 41) (some p))
  have HK := Aside0.mk (heap_alloc_new w (.cells #[.int .i64 0, .string ⟨#[]⟩] 41))
  have HGP : Aside0 (w.heap.size ≠ p) := ⟨fun e => by have := H.out.lt; omega⟩
  go_enter Tryd.func66, Tryd.ntmps66
  go_wp2_with fail
  change Code.wp _ _ _ _ (w.alloc (.cells #[.int .i64 0, .string ⟨#[]⟩] 41))
  obtain ⟨gA, hgA⟩ : ∃ g, w.heap.size = g := ⟨_, rfl⟩
  obtain ⟨wA, hwA⟩ : ∃ W, w.alloc (.cells #[.int .i64 0, .string ⟨#[]⟩] 41) = W := ⟨_, rfl⟩
  rw [hwA] at HA HG HK ⊢
  rw [hgA] at HK HGP
  have HGA := Aside0.mk hgA
  have HGW : Aside0 (w0.heap.size ≤ gA) := ⟨by rw [← hgA]; exact H.out.bel.size⟩
  simp only [hgA]
  clear hwA hgA
  go_loopw [6] (fun u wr => ∃ j : Nat, u = .int .i64 (j : Int) ∧ j ≤ 5 ∧ Aside0 (NoW st j) ∧ wr = wA) (fun u _ => 5 - (intOf u).toNat)
  case atStart => exact ⟨0, rfl, by omega, ⟨⟨fun h => absurd h (by omega), fun h => absurd h (by omega), fun h => absurd h (by omega), fun h => absurd h (by omega), fun h => absurd h (by omega)⟩⟩, rfl⟩
  case round =>
    obtain ⟨j, rfl, hj, HX, rfl⟩ := hrel
    have hc : j = 0 ∨ j = 1 ∨ j = 2 ∨ j = 3 ∨ j = 4 ∨ j = 5 := by omega
    rcases hc with rfl | rfl | rfl | rfl | rfl | rfl
    · have hix : ∀ W, (Instr.index 36 (.agg #[.string ⟨#[105, 110, 116, 51, 50]⟩, .string ⟨#[105, 110, 116, 54, 52]⟩, .string ⟨#[98, 111, 111, 108]⟩, .string ⟨#[116, 101, 120, 116]⟩, .string ⟨#[98, 121, 116, 101, 115]⟩]) (.int .i64 0)).run Tryd.prog W = .ok (.string ⟨#[105, 110, 116, 51, 50]⟩) W := fun _ => by kernel_rfl
      cases hv : takesB w_int32 st with
      | true =>
        have HV := Aside0.mk hv
        have hsc : scal st = 1 := scal_1 st hv
        have HS2 : Aside0 ((st.1.tail, st.2) = s2) := ⟨by rw [← hs.out, kindM, if_neg (by rw [hsc]; decide)]⟩
        have hk0 : k = 1 := by rw [← hk.out, hsc]; rfl
        have hn0 : n = ⟨#[]⟩ := by rw [← hn.out, kindN, if_neg (by rw [hsc]; decide)]; rfl
        subst hk0 hn0
        clear hv hsc
        go_wp2_with fail
        refine (takes_yes w0 wr p st HA w_int32 HV s2 HS2).mono ?_
        rintro e w2 ⟨rfl, HP2, HB2⟩
        have hk9 := grown_block HB2.out HK.out HGP.out
        have z0 : w2.cell? ⟨gA, 0, none⟩ = some (.int .i64 0) := blk_cell hk9 0
        have z1 : w2.cell? ⟨gA, 1, none⟩ = some (.string ⟨#[]⟩) := blk_cell hk9 1
        have hfz := fun i => blk_frozen hk9 i
        have HK9 := Aside0.mk hk9
        clear hk9
        go_wp2_with fail
        change bodyPost _ _ _ _ _ ((w2.setCell ⟨gA, 0, none⟩ (.int .i64 1)).setCell ⟨gA, 1, none⟩ (.string ⟨#[]⟩))
        have hk8 := blk_set (blk_set HK9.out 0 (.int .i64 1)) 1 (.string ⟨#[]⟩)
        simp only [List.setIfInBounds_toArray, List.set_cons_zero, List.set_cons_succ] at hk8
        have hb8 : Below w.heap.size w2 ((w2.setCell ⟨gA, 0, none⟩ (.int .i64 1)).setCell ⟨gA, 1, none⟩ (.string ⟨#[]⟩)) := ((Below.refl _ _).setCell (p := ⟨gA, 0, none⟩) (Nat.le_of_eq HGA.out) _).setCell (p := ⟨gA, 1, none⟩) (Nat.le_of_eq HGA.out) _
        have hp8 := HP2.out.far (g := gA) HGP.out HGW.out 0 (.int .i64 1)
        have hp9 := hp8.far (g := gA) HGP.out HGW.out 1 (.string ⟨#[]⟩)
        have hg9 : w.grownBy ((w2.setCell ⟨gA, 0, none⟩ (.int .i64 1)).setCell ⟨gA, 1, none⟩ (.string ⟨#[]⟩)) (some p) := grown_far (grown_far (HG.out.trans HB2.out) (Nat.le_of_eq HGA.out) 0 _) (Nat.le_of_eq HGA.out) 1 _
        obtain ⟨w8, hw8⟩ : ∃ w8, (w2.setCell ⟨gA, 0, none⟩ (.int .i64 1)).setCell ⟨gA, 1, none⟩ (.string ⟨#[]⟩) = w8 := ⟨_, rfl⟩
        rw [hw8] at hk8 hp9 hg9 ⊢
        clear hw8 z0 z1 hfz hb8 hp8
        have z0 : w8.cell? ⟨gA, 0, none⟩ = some (.int .i64 1) := blk_cell hk8 0
        have z1 : w8.cell? ⟨gA, 1, none⟩ = some (.string ⟨#[]⟩) := blk_cell hk8 1
        refine bodyPost_ret (v := .agg #[.int .i64 1, .string ⟨#[]⟩]) ?_ rfl ?_
        · rw [results_cell rfl]
          go_simp
          first | rfl | done
        · exact ⟨rfl, ⟨hp9⟩, ⟨hg9⟩⟩
      | false =>
        have HV := Aside0.mk hv
        clear hv
        go_wp2_with fail
        refine (takes_no w0 wr p st HA w_int32 HV).mono ?_
        rintro e w2 ⟨rfl, rfl⟩
        go_wp2_with fail
        go_roundw
        case rel => exact ⟨1, rfl, by omega, ⟨⟨fun _ => HV.out, fun h => absurd h (by omega), fun h => absurd h (by omega), fun h => absurd h (by omega), fun h => absurd h (by omega)⟩⟩, by trivial⟩
        case measure => simp [intOf]
    · have hix : ∀ W, (Instr.index 36 (.agg #[.string ⟨#[105, 110, 116, 51, 50]⟩, .string ⟨#[105, 110, 116, 54, 52]⟩, .string ⟨#[98, 111, 111, 108]⟩, .string ⟨#[116, 101, 120, 116]⟩, .string ⟨#[98, 121, 116, 101, 115]⟩]) (.int .i64 1)).run Tryd.prog W = .ok (.string ⟨#[105, 110, 116, 54, 52]⟩) W := fun _ => by kernel_rfl
      cases hv : takesB w_int64 st with
      | true =>
        have HV := Aside0.mk hv
        have hsc : scal st = 2 := scal_2 st (HX.out.1 (by omega)) hv
        have HS2 : Aside0 ((st.1.tail, st.2) = s2) := ⟨by rw [← hs.out, kindM, if_neg (by rw [hsc]; decide)]⟩
        have hk0 : k = 2 := by rw [← hk.out, hsc]; rfl
        have hn0 : n = ⟨#[]⟩ := by rw [← hn.out, kindN, if_neg (by rw [hsc]; decide)]; rfl
        subst hk0 hn0
        clear hv hsc
        go_wp2_with fail
        refine (takes_yes w0 wr p st HA w_int64 HV s2 HS2).mono ?_
        rintro e w2 ⟨rfl, HP2, HB2⟩
        have hk9 := grown_block HB2.out HK.out HGP.out
        have z0 : w2.cell? ⟨gA, 0, none⟩ = some (.int .i64 0) := blk_cell hk9 0
        have z1 : w2.cell? ⟨gA, 1, none⟩ = some (.string ⟨#[]⟩) := blk_cell hk9 1
        have hfz := fun i => blk_frozen hk9 i
        have HK9 := Aside0.mk hk9
        clear hk9
        go_wp2_with fail
        change bodyPost _ _ _ _ _ ((w2.setCell ⟨gA, 0, none⟩ (.int .i64 2)).setCell ⟨gA, 1, none⟩ (.string ⟨#[]⟩))
        have hk8 := blk_set (blk_set HK9.out 0 (.int .i64 2)) 1 (.string ⟨#[]⟩)
        simp only [List.setIfInBounds_toArray, List.set_cons_zero, List.set_cons_succ] at hk8
        have hb8 : Below w.heap.size w2 ((w2.setCell ⟨gA, 0, none⟩ (.int .i64 2)).setCell ⟨gA, 1, none⟩ (.string ⟨#[]⟩)) := ((Below.refl _ _).setCell (p := ⟨gA, 0, none⟩) (Nat.le_of_eq HGA.out) _).setCell (p := ⟨gA, 1, none⟩) (Nat.le_of_eq HGA.out) _
        have hp8 := HP2.out.far (g := gA) HGP.out HGW.out 0 (.int .i64 2)
        have hp9 := hp8.far (g := gA) HGP.out HGW.out 1 (.string ⟨#[]⟩)
        have hg9 : w.grownBy ((w2.setCell ⟨gA, 0, none⟩ (.int .i64 2)).setCell ⟨gA, 1, none⟩ (.string ⟨#[]⟩)) (some p) := grown_far (grown_far (HG.out.trans HB2.out) (Nat.le_of_eq HGA.out) 0 _) (Nat.le_of_eq HGA.out) 1 _
        obtain ⟨w8, hw8⟩ : ∃ w8, (w2.setCell ⟨gA, 0, none⟩ (.int .i64 2)).setCell ⟨gA, 1, none⟩ (.string ⟨#[]⟩) = w8 := ⟨_, rfl⟩
        rw [hw8] at hk8 hp9 hg9 ⊢
        clear hw8 z0 z1 hfz hb8 hp8
        have z0 : w8.cell? ⟨gA, 0, none⟩ = some (.int .i64 2) := blk_cell hk8 0
        have z1 : w8.cell? ⟨gA, 1, none⟩ = some (.string ⟨#[]⟩) := blk_cell hk8 1
        refine bodyPost_ret (v := .agg #[.int .i64 2, .string ⟨#[]⟩]) ?_ rfl ?_
        · rw [results_cell rfl]
          go_simp
          first | rfl | done
        · exact ⟨rfl, ⟨hp9⟩, ⟨hg9⟩⟩
      | false =>
        have HV := Aside0.mk hv
        clear hv
        go_wp2_with fail
        refine (takes_no w0 wr p st HA w_int64 HV).mono ?_
        rintro e w2 ⟨rfl, rfl⟩
        go_wp2_with fail
        go_roundw
        case rel => exact ⟨2, rfl, by omega, ⟨⟨fun _ => HX.out.1 (by omega), fun _ => HV.out, fun h => absurd h (by omega), fun h => absurd h (by omega), fun h => absurd h (by omega)⟩⟩, by trivial⟩
        case measure => simp [intOf]
    · have hix : ∀ W, (Instr.index 36 (.agg #[.string ⟨#[105, 110, 116, 51, 50]⟩, .string ⟨#[105, 110, 116, 54, 52]⟩, .string ⟨#[98, 111, 111, 108]⟩, .string ⟨#[116, 101, 120, 116]⟩, .string ⟨#[98, 121, 116, 101, 115]⟩]) (.int .i64 2)).run Tryd.prog W = .ok (.string ⟨#[98, 111, 111, 108]⟩) W := fun _ => by kernel_rfl
      cases hv : takesB w_bool st with
      | true =>
        have HV := Aside0.mk hv
        have hsc : scal st = 3 := scal_3 st (HX.out.1 (by omega)) (HX.out.2.1 (by omega)) hv
        have HS2 : Aside0 ((st.1.tail, st.2) = s2) := ⟨by rw [← hs.out, kindM, if_neg (by rw [hsc]; decide)]⟩
        have hk0 : k = 3 := by rw [← hk.out, hsc]; rfl
        have hn0 : n = ⟨#[]⟩ := by rw [← hn.out, kindN, if_neg (by rw [hsc]; decide)]; rfl
        subst hk0 hn0
        clear hv hsc
        go_wp2_with fail
        refine (takes_yes w0 wr p st HA w_bool HV s2 HS2).mono ?_
        rintro e w2 ⟨rfl, HP2, HB2⟩
        have hk9 := grown_block HB2.out HK.out HGP.out
        have z0 : w2.cell? ⟨gA, 0, none⟩ = some (.int .i64 0) := blk_cell hk9 0
        have z1 : w2.cell? ⟨gA, 1, none⟩ = some (.string ⟨#[]⟩) := blk_cell hk9 1
        have hfz := fun i => blk_frozen hk9 i
        have HK9 := Aside0.mk hk9
        clear hk9
        go_wp2_with fail
        change bodyPost _ _ _ _ _ ((w2.setCell ⟨gA, 0, none⟩ (.int .i64 3)).setCell ⟨gA, 1, none⟩ (.string ⟨#[]⟩))
        have hk8 := blk_set (blk_set HK9.out 0 (.int .i64 3)) 1 (.string ⟨#[]⟩)
        simp only [List.setIfInBounds_toArray, List.set_cons_zero, List.set_cons_succ] at hk8
        have hb8 : Below w.heap.size w2 ((w2.setCell ⟨gA, 0, none⟩ (.int .i64 3)).setCell ⟨gA, 1, none⟩ (.string ⟨#[]⟩)) := ((Below.refl _ _).setCell (p := ⟨gA, 0, none⟩) (Nat.le_of_eq HGA.out) _).setCell (p := ⟨gA, 1, none⟩) (Nat.le_of_eq HGA.out) _
        have hp8 := HP2.out.far (g := gA) HGP.out HGW.out 0 (.int .i64 3)
        have hp9 := hp8.far (g := gA) HGP.out HGW.out 1 (.string ⟨#[]⟩)
        have hg9 : w.grownBy ((w2.setCell ⟨gA, 0, none⟩ (.int .i64 3)).setCell ⟨gA, 1, none⟩ (.string ⟨#[]⟩)) (some p) := grown_far (grown_far (HG.out.trans HB2.out) (Nat.le_of_eq HGA.out) 0 _) (Nat.le_of_eq HGA.out) 1 _
        obtain ⟨w8, hw8⟩ : ∃ w8, (w2.setCell ⟨gA, 0, none⟩ (.int .i64 3)).setCell ⟨gA, 1, none⟩ (.string ⟨#[]⟩) = w8 := ⟨_, rfl⟩
        rw [hw8] at hk8 hp9 hg9 ⊢
        clear hw8 z0 z1 hfz hb8 hp8
        have z0 : w8.cell? ⟨gA, 0, none⟩ = some (.int .i64 3) := blk_cell hk8 0
        have z1 : w8.cell? ⟨gA, 1, none⟩ = some (.string ⟨#[]⟩) := blk_cell hk8 1
        refine bodyPost_ret (v := .agg #[.int .i64 3, .string ⟨#[]⟩]) ?_ rfl ?_
        · rw [results_cell rfl]
          go_simp
          first | rfl | done
        · exact ⟨rfl, ⟨hp9⟩, ⟨hg9⟩⟩
      | false =>
        have HV := Aside0.mk hv
        clear hv
        go_wp2_with fail
        refine (takes_no w0 wr p st HA w_bool HV).mono ?_
        rintro e w2 ⟨rfl, rfl⟩
        go_wp2_with fail
        go_roundw
        case rel => exact ⟨3, rfl, by omega, ⟨⟨fun _ => HX.out.1 (by omega), fun _ => HX.out.2.1 (by omega), fun _ => HV.out, fun h => absurd h (by omega), fun h => absurd h (by omega)⟩⟩, by trivial⟩
        case measure => simp [intOf]
    · have hix : ∀ W, (Instr.index 36 (.agg #[.string ⟨#[105, 110, 116, 51, 50]⟩, .string ⟨#[105, 110, 116, 54, 52]⟩, .string ⟨#[98, 111, 111, 108]⟩, .string ⟨#[116, 101, 120, 116]⟩, .string ⟨#[98, 121, 116, 101, 115]⟩]) (.int .i64 3)).run Tryd.prog W = .ok (.string ⟨#[116, 101, 120, 116]⟩) W := fun _ => by kernel_rfl
      cases hv : takesB w_text st with
      | true =>
        have HV := Aside0.mk hv
        have hsc : scal st = 4 := scal_4 st (HX.out.1 (by omega)) (HX.out.2.1 (by omega)) (HX.out.2.2.1 (by omega)) hv
        have HS2 : Aside0 ((st.1.tail, st.2) = s2) := ⟨by rw [← hs.out, kindM, if_neg (by rw [hsc]; decide)]⟩
        have hk0 : k = 4 := by rw [← hk.out, hsc]; rfl
        have hn0 : n = ⟨#[]⟩ := by rw [← hn.out, kindN, if_neg (by rw [hsc]; decide)]; rfl
        subst hk0 hn0
        clear hv hsc
        go_wp2_with fail
        refine (takes_yes w0 wr p st HA w_text HV s2 HS2).mono ?_
        rintro e w2 ⟨rfl, HP2, HB2⟩
        have hk9 := grown_block HB2.out HK.out HGP.out
        have z0 : w2.cell? ⟨gA, 0, none⟩ = some (.int .i64 0) := blk_cell hk9 0
        have z1 : w2.cell? ⟨gA, 1, none⟩ = some (.string ⟨#[]⟩) := blk_cell hk9 1
        have hfz := fun i => blk_frozen hk9 i
        have HK9 := Aside0.mk hk9
        clear hk9
        go_wp2_with fail
        change bodyPost _ _ _ _ _ ((w2.setCell ⟨gA, 0, none⟩ (.int .i64 4)).setCell ⟨gA, 1, none⟩ (.string ⟨#[]⟩))
        have hk8 := blk_set (blk_set HK9.out 0 (.int .i64 4)) 1 (.string ⟨#[]⟩)
        simp only [List.setIfInBounds_toArray, List.set_cons_zero, List.set_cons_succ] at hk8
        have hb8 : Below w.heap.size w2 ((w2.setCell ⟨gA, 0, none⟩ (.int .i64 4)).setCell ⟨gA, 1, none⟩ (.string ⟨#[]⟩)) := ((Below.refl _ _).setCell (p := ⟨gA, 0, none⟩) (Nat.le_of_eq HGA.out) _).setCell (p := ⟨gA, 1, none⟩) (Nat.le_of_eq HGA.out) _
        have hp8 := HP2.out.far (g := gA) HGP.out HGW.out 0 (.int .i64 4)
        have hp9 := hp8.far (g := gA) HGP.out HGW.out 1 (.string ⟨#[]⟩)
        have hg9 : w.grownBy ((w2.setCell ⟨gA, 0, none⟩ (.int .i64 4)).setCell ⟨gA, 1, none⟩ (.string ⟨#[]⟩)) (some p) := grown_far (grown_far (HG.out.trans HB2.out) (Nat.le_of_eq HGA.out) 0 _) (Nat.le_of_eq HGA.out) 1 _
        obtain ⟨w8, hw8⟩ : ∃ w8, (w2.setCell ⟨gA, 0, none⟩ (.int .i64 4)).setCell ⟨gA, 1, none⟩ (.string ⟨#[]⟩) = w8 := ⟨_, rfl⟩
        rw [hw8] at hk8 hp9 hg9 ⊢
        clear hw8 z0 z1 hfz hb8 hp8
        have z0 : w8.cell? ⟨gA, 0, none⟩ = some (.int .i64 4) := blk_cell hk8 0
        have z1 : w8.cell? ⟨gA, 1, none⟩ = some (.string ⟨#[]⟩) := blk_cell hk8 1
        refine bodyPost_ret (v := .agg #[.int .i64 4, .string ⟨#[]⟩]) ?_ rfl ?_
        · rw [results_cell rfl]
          go_simp
          first | rfl | done
        · exact ⟨rfl, ⟨hp9⟩, ⟨hg9⟩⟩
      | false =>
        have HV := Aside0.mk hv
        clear hv
        go_wp2_with fail
        refine (takes_no w0 wr p st HA w_text HV).mono ?_
        rintro e w2 ⟨rfl, rfl⟩
        go_wp2_with fail
        go_roundw
        case rel => exact ⟨4, rfl, by omega, ⟨⟨fun _ => HX.out.1 (by omega), fun _ => HX.out.2.1 (by omega), fun _ => HX.out.2.2.1 (by omega), fun _ => HV.out, fun h => absurd h (by omega)⟩⟩, by trivial⟩
        case measure => simp [intOf]
    · have hix : ∀ W, (Instr.index 36 (.agg #[.string ⟨#[105, 110, 116, 51, 50]⟩, .string ⟨#[105, 110, 116, 54, 52]⟩, .string ⟨#[98, 111, 111, 108]⟩, .string ⟨#[116, 101, 120, 116]⟩, .string ⟨#[98, 121, 116, 101, 115]⟩]) (.int .i64 4)).run Tryd.prog W = .ok (.string ⟨#[98, 121, 116, 101, 115]⟩) W := fun _ => by kernel_rfl
      cases hv : takesB w_bytes st with
      | true =>
        have HV := Aside0.mk hv
        have hsc : scal st = 5 := scal_5 st (HX.out.1 (by omega)) (HX.out.2.1 (by omega)) (HX.out.2.2.1 (by omega)) (HX.out.2.2.2.1 (by omega)) hv
        have HS2 : Aside0 ((st.1.tail, st.2) = s2) := ⟨by rw [← hs.out, kindM, if_neg (by rw [hsc]; decide)]⟩
        have hk0 : k = 5 := by rw [← hk.out, hsc]; rfl
        have hn0 : n = ⟨#[]⟩ := by rw [← hn.out, kindN, if_neg (by rw [hsc]; decide)]; rfl
        subst hk0 hn0
        clear hv hsc
        go_wp2_with fail
        refine (takes_yes w0 wr p st HA w_bytes HV s2 HS2).mono ?_
        rintro e w2 ⟨rfl, HP2, HB2⟩
        have hk9 := grown_block HB2.out HK.out HGP.out
        have z0 : w2.cell? ⟨gA, 0, none⟩ = some (.int .i64 0) := blk_cell hk9 0
        have z1 : w2.cell? ⟨gA, 1, none⟩ = some (.string ⟨#[]⟩) := blk_cell hk9 1
        have hfz := fun i => blk_frozen hk9 i
        have HK9 := Aside0.mk hk9
        clear hk9
        go_wp2_with fail
        change bodyPost _ _ _ _ _ ((w2.setCell ⟨gA, 0, none⟩ (.int .i64 5)).setCell ⟨gA, 1, none⟩ (.string ⟨#[]⟩))
        have hk8 := blk_set (blk_set HK9.out 0 (.int .i64 5)) 1 (.string ⟨#[]⟩)
        simp only [List.setIfInBounds_toArray, List.set_cons_zero, List.set_cons_succ] at hk8
        have hb8 : Below w.heap.size w2 ((w2.setCell ⟨gA, 0, none⟩ (.int .i64 5)).setCell ⟨gA, 1, none⟩ (.string ⟨#[]⟩)) := ((Below.refl _ _).setCell (p := ⟨gA, 0, none⟩) (Nat.le_of_eq HGA.out) _).setCell (p := ⟨gA, 1, none⟩) (Nat.le_of_eq HGA.out) _
        have hp8 := HP2.out.far (g := gA) HGP.out HGW.out 0 (.int .i64 5)
        have hp9 := hp8.far (g := gA) HGP.out HGW.out 1 (.string ⟨#[]⟩)
        have hg9 : w.grownBy ((w2.setCell ⟨gA, 0, none⟩ (.int .i64 5)).setCell ⟨gA, 1, none⟩ (.string ⟨#[]⟩)) (some p) := grown_far (grown_far (HG.out.trans HB2.out) (Nat.le_of_eq HGA.out) 0 _) (Nat.le_of_eq HGA.out) 1 _
        obtain ⟨w8, hw8⟩ : ∃ w8, (w2.setCell ⟨gA, 0, none⟩ (.int .i64 5)).setCell ⟨gA, 1, none⟩ (.string ⟨#[]⟩) = w8 := ⟨_, rfl⟩
        rw [hw8] at hk8 hp9 hg9 ⊢
        clear hw8 z0 z1 hfz hb8 hp8
        have z0 : w8.cell? ⟨gA, 0, none⟩ = some (.int .i64 5) := blk_cell hk8 0
        have z1 : w8.cell? ⟨gA, 1, none⟩ = some (.string ⟨#[]⟩) := blk_cell hk8 1
        refine bodyPost_ret (v := .agg #[.int .i64 5, .string ⟨#[]⟩]) ?_ rfl ?_
        · rw [results_cell rfl]
          go_simp
          first | rfl | done
        · exact ⟨rfl, ⟨hp9⟩, ⟨hg9⟩⟩
      | false =>
        have HV := Aside0.mk hv
        clear hv
        go_wp2_with fail
        refine (takes_no w0 wr p st HA w_bytes HV).mono ?_
        rintro e w2 ⟨rfl, rfl⟩
        go_wp2_with fail
        go_roundw
        case rel => exact ⟨5, rfl, by omega, ⟨⟨fun _ => HX.out.1 (by omega), fun _ => HX.out.2.1 (by omega), fun _ => HX.out.2.2.1 (by omega), fun _ => HX.out.2.2.2.1 (by omega), fun _ => HV.out⟩⟩, by trivial⟩
        case measure => simp [intOf]
    · have hsc : scal st = 0 := scal_0 st (HX.out.1 (by omega)) (HX.out.2.1 (by omega)) (HX.out.2.2.1 (by omega)) (HX.out.2.2.2.1 (by omega)) (HX.out.2.2.2.2 (by omega))
      have HS2 : Aside0 (nameM st = s2) := ⟨by rw [← hs.out, kindM, if_pos hsc]⟩
      have hk0 : k = 7 := by rw [← hk.out, hsc]; rfl
      have HN : Aside0 (nameV st = n) := ⟨by rw [← hn.out, kindN, if_pos hsc]⟩
      subst hk0
      clear hsc
      go_wp2_with fail
      refine (pname_any w0 wr p st HA n HN s2 HS2).mono ?_
      rintro e w2 ⟨rfl, HP2, HB2⟩
      have hk9 := grown_block HB2.out HK.out HGP.out
      have z0 : w2.cell? ⟨gA, 0, none⟩ = some (.int .i64 0) := blk_cell hk9 0
      have z1 : w2.cell? ⟨gA, 1, none⟩ = some (.string ⟨#[]⟩) := blk_cell hk9 1
      have hfz := fun i => blk_frozen hk9 i
      have HK9 := Aside0.mk hk9
      clear hk9
      go_wp2_with fail
      change bodyPost _ _ _ _ _ ((w2.setCell ⟨gA, 0, none⟩ (.int .i64 7)).setCell ⟨gA, 1, none⟩ (.string n))
      have hk8 := blk_set (blk_set HK9.out 0 (.int .i64 7)) 1 (.string n)
      simp only [List.setIfInBounds_toArray, List.set_cons_zero, List.set_cons_succ] at hk8
      have hb8 : Below w.heap.size w2 ((w2.setCell ⟨gA, 0, none⟩ (.int .i64 7)).setCell ⟨gA, 1, none⟩ (.string n)) := ((Below.refl _ _).setCell (p := ⟨gA, 0, none⟩) (Nat.le_of_eq HGA.out) _).setCell (p := ⟨gA, 1, none⟩) (Nat.le_of_eq HGA.out) _
      have hp8 := HP2.out.far (g := gA) HGP.out HGW.out 0 (.int .i64 7)
      have hp9 := hp8.far (g := gA) HGP.out HGW.out 1 (.string n)
      have hg9 : w.grownBy ((w2.setCell ⟨gA, 0, none⟩ (.int .i64 7)).setCell ⟨gA, 1, none⟩ (.string n)) (some p) := grown_far (grown_far (HG.out.trans HB2.out) (Nat.le_of_eq HGA.out) 0 _) (Nat.le_of_eq HGA.out) 1 _
      obtain ⟨w8, hw8⟩ : ∃ w8, (w2.setCell ⟨gA, 0, none⟩ (.int .i64 7)).setCell ⟨gA, 1, none⟩ (.string n) = w8 := ⟨_, rfl⟩
      rw [hw8] at hk8 hp9 hg9 ⊢
      clear hw8 z0 z1 hfz hb8 hp8
      have z0 : w8.cell? ⟨gA, 0, none⟩ = some (.int .i64 7) := blk_cell hk8 0
      have z1 : w8.cell? ⟨gA, 1, none⟩ = some (.string n) := blk_cell hk8 1
      refine bodyPost_ret (v := .agg #[.int .i64 7, .string n]) ?_ rfl ?_
      · rw [results_cell rfl]
        go_simp
        first | rfl | done
      · exact ⟨rfl, ⟨hp9⟩, ⟨hg9⟩⟩
end Go.Proofs.YtbfhglaaombglaaDoor
end
section
namespace Go.Proofs.YtbfhglaaombglaaDoor
set_option linter.unusedVariables false
set_option linter.unusedSimpArgs false
open Go.RowKit Go.Proofs.YtbfhglaaombglaaDoorW.PrintWords
/-- A field's cells in the program: a name's kind is 7. -/
def fieldC (f : Fd) : List Value := [.string f.name, .int .i64 (f.tag : Int), .int .i64 (f.label : Int), .int .i64 (kk7 f.kind : Int), .string f.tname]
set_option maxRecDepth 100000 in
set_option maxHeartbeats 2000000 in
theorem field_any (w0 w : World) (p : Nat) (st : St) (H : Aside0 (PS w0 w p st)) :
    Calls Tryd.prog 55 #[.pointer (some ⟨p, 0, none⟩)] w fun e w' => e = .returned (.agg (fieldC (fieldV st)).toArray) ∧ Aside0 (PS w0 w' p (fieldM st)) ∧ Aside0 (w.grownBy w' (some p)) := by
  obtain ⟨s1, hs1⟩ : ∃ s, labM st = s := ⟨_, rfl⟩
  obtain ⟨s2, hs2⟩ : ∃ s, kindM s1 = s := ⟨_, rfl⟩
  obtain ⟨s3, hs3⟩ : ∃ s, nameM s2 = s := ⟨_, rfl⟩
  obtain ⟨s4, hs4⟩ : ∃ s, need c_eq s3 = s := ⟨_, rfl⟩
  obtain ⟨s5, hs5⟩ : ∃ s, numM s4 = s := ⟨_, rfl⟩
  obtain ⟨s6, hs6⟩ : ∃ s, need c_semi s5 = s := ⟨_, rfl⟩
  obtain ⟨lb, hlb⟩ : ∃ x, labV st = x := ⟨_, rfl⟩
  obtain ⟨kd, hkd⟩ : ∃ x, kk7 (scal s1) = x := ⟨_, rfl⟩
  obtain ⟨tn, htn⟩ : ∃ x, kindN s1 = x := ⟨_, rfl⟩
  obtain ⟨nm, hnm⟩ : ∃ x, nameV s2 = x := ⟨_, rfl⟩
  obtain ⟨tg, htg⟩ : ∃ x, numV s4 = x := ⟨_, rfl⟩
  have HFV : Aside0 (fieldC (fieldV st) = [.string nm, .int .i64 (tg : Int), .int .i64 (lb : Int), .int .i64 (kd : Int), .string tn]) := ⟨by rw [fieldC, fieldV]; simp only [hs1, hs2, hs3, hs4, hlb, htn, hnm, htg, hkd]⟩
  have HFM : Aside0 (fieldM st = s6) := ⟨by rw [fieldM, hs1, hs2, hs3, hs4, hs5, hs6]⟩
  have As1 := Aside0.mk hs1
  have As2 := Aside0.mk hs2
  have As3 := Aside0.mk hs3
  have As4 := Aside0.mk hs4
  have As5 := Aside0.mk hs5
  have As6 := Aside0.mk hs6
  have Alb := Aside0.mk hlb
  have Akd := Aside0.mk hkd
  have Atn := Aside0.mk htn
  have Anm := Aside0.mk hnm
  have Atg := Aside0.mk htg
  clear hs1 hs2 hs3 hs4 hs5 hs6 hlb hkd htn hnm htg
  have HLT := Aside0.mk H.out.lt
  go_enter Tryd.func55, Tryd.ntmps55
  go_upto_block 0 with fail
  change Code.wp _ _ _ _ ((w.alloc (.cells #[.string ⟨#[]⟩, .int .i64 0, .int .i64 0, .int .i64 0, .string ⟨#[]⟩] 43)).alloc (.cells #[.string ⟨#[]⟩, .int .i64 0, .int .i64 1, .int .i64 0, .string ⟨#[]⟩] 43))
  have hbel : Below w.heap.size w ((w.alloc (.cells #[.string ⟨#[]⟩, .int .i64 0, .int .i64 0, .int .i64 0, .string ⟨#[]⟩] 43)).alloc (.cells #[.string ⟨#[]⟩, .int .i64 0, .int .i64 1, .int .i64 0, .string ⟨#[]⟩] 43)) := (((Below.refl w.heap.size w).alloc (Nat.le_refl _) _).alloc (by simp) _)
  have hgR : (w.alloc (.cells #[.string ⟨#[]⟩, .int .i64 0, .int .i64 0, .int .i64 0, .string ⟨#[]⟩] 43)).heap[w.heap.size]? = some (.cells #[.string ⟨#[]⟩, .int .i64 0, .int .i64 0, .int .i64 0, .string ⟨#[]⟩] 43 (0, 0)) := by
    have h9 := heap_alloc_new w (.cells #[.string ⟨#[]⟩, .int .i64 0, .int .i64 0, .int .i64 0, .string ⟨#[]⟩] 43)
    exact h9
  replace hgR : ((w.alloc (.cells #[.string ⟨#[]⟩, .int .i64 0, .int .i64 0, .int .i64 0, .string ⟨#[]⟩] 43)).alloc (.cells #[.string ⟨#[]⟩, .int .i64 0, .int .i64 1, .int .i64 0, .string ⟨#[]⟩] 43)).heap[w.heap.size]? = some (.cells #[.string ⟨#[]⟩, .int .i64 0, .int .i64 0, .int .i64 0, .string ⟨#[]⟩] 43 (0, 0)) := by
    rw [((Below.refl (w.alloc (.cells #[.string ⟨#[]⟩, .int .i64 0, .int .i64 0, .int .i64 0, .string ⟨#[]⟩] 43)).heap.size (w.alloc (.cells #[.string ⟨#[]⟩, .int .i64 0, .int .i64 0, .int .i64 0, .string ⟨#[]⟩] 43))).alloc (Nat.le_refl _) _).block _ (by simp)]
    exact hgR
  have hgX : ((w.alloc (.cells #[.string ⟨#[]⟩, .int .i64 0, .int .i64 0, .int .i64 0, .string ⟨#[]⟩] 43)).alloc (.cells #[.string ⟨#[]⟩, .int .i64 0, .int .i64 1, .int .i64 0, .string ⟨#[]⟩] 43)).heap[w.heap.size + 1]? = some (.cells #[.string ⟨#[]⟩, .int .i64 0, .int .i64 1, .int .i64 0, .string ⟨#[]⟩] 43 (0, 0)) := by
    have h9 := heap_alloc_new (w.alloc (.cells #[.string ⟨#[]⟩, .int .i64 0, .int .i64 0, .int .i64 0, .string ⟨#[]⟩] 43)) (.cells #[.string ⟨#[]⟩, .int .i64 0, .int .i64 1, .int .i64 0, .string ⟨#[]⟩] 43)
    rw [show (w.alloc (.cells #[.string ⟨#[]⟩, .int .i64 0, .int .i64 0, .int .i64 0, .string ⟨#[]⟩] 43)).heap.size = w.heap.size + 1 by simp] at h9
    exact h9
  obtain ⟨gR, hggR⟩ : ∃ g, w.heap.size = g := ⟨_, rfl⟩
  obtain ⟨gX, hggX⟩ : ∃ g, w.heap.size + 1 = g := ⟨_, rfl⟩
  have hps := H.out.below hbel
  obtain ⟨w1, hw9⟩ : ∃ x, ((w.alloc (.cells #[.string ⟨#[]⟩, .int .i64 0, .int .i64 0, .int .i64 0, .string ⟨#[]⟩] 43)).alloc (.cells #[.string ⟨#[]⟩, .int .i64 0, .int .i64 1, .int .i64 0, .string ⟨#[]⟩] 43)) = x := ⟨_, rfl⟩
  rw [hggR, hw9] at hgR
  rw [hggX, hw9] at hgX
  rw [hw9] at hps hbel ⊢
  have HPw1 := Aside0.mk hps
  have HBw1 := Aside0.mk (below_grownBy hbel (some p))
  have HgRw1 := Aside0.mk hgR
  have HLgR : Aside0 (w.heap.size ≤ gR) := ⟨by omega⟩
  have HNgR : Aside0 (gR ≠ p) := ⟨by have := HLT.out; omega⟩
  have HWgR : Aside0 (w0.heap.size ≤ gR) := ⟨Nat.le_trans H.out.bel.size HLgR.out⟩
  have HgXw1 := Aside0.mk hgX
  have HLgX : Aside0 (w.heap.size ≤ gX) := ⟨by omega⟩
  have HNgX : Aside0 (gX ≠ p) := ⟨by have := HLT.out; omega⟩
  have HWgX : Aside0 (w0.heap.size ≤ gX) := ⟨Nat.le_trans H.out.bel.size HLgX.out⟩
  have HDgRgX : Aside0 (gR ≠ gX) := ⟨by omega⟩
  simp only [hggX]
  simp only [hggR]
  clear hw9 hps hbel hggR hggX hgR hgX
  go_cut [] (fun wd => Aside0 (PS w0 wd p s1 ∧ w.grownBy wd (some p) ∧ wd.heap[gR]? = some (.cells #[.string ⟨#[]⟩, .int .i64 0, .int .i64 0, .int .i64 0, .string ⟨#[]⟩] 43 (0, 0)) ∧ wd.heap[gX]? = some (.cells #[.string ⟨#[]⟩, .int .i64 0, .int .i64 (lb : Int), .int .i64 0, .string ⟨#[]⟩] 43 (0, 0))))
  case first =>
    cases ho : takesB w_optional st with
    | true =>
      have HO := Aside0.mk ho
      have hl2 : lb = 2 := by rw [← Alb.out, labV, if_pos ho]
      have HS : Aside0 ((st.1.tail, st.2) = s1) := ⟨by rw [← As1.out, labM, if_pos (by rw [ho]; rfl)]⟩
      subst hl2
      clear ho
      go_wp2_with fail
      refine (takes_yes w0 w1 p st HPw1 w_optional HO s1 HS).mono ?_
      rintro e w2 ⟨rfl, HPw2, hb9⟩
      have HBw2 := Aside0.mk (HBw1.out.trans hb9.out)
      have HgRw2 := Aside0.mk (grown_block hb9.out HgRw1.out HNgR.out)
      have HgXw2 := Aside0.mk (grown_block hb9.out HgXw1.out HNgX.out)
      clear hb9 HPw1 HBw1 HgRw1 HgXw1
      have zgX2 : w2.cell? ⟨gX, 2, none⟩ = some (.int .i64 1) := blk_cell HgXw2.out 2
      have hfzgX := fun i => blk_frozen HgXw2.out i
      go_wp2_with fail
      go_meet
      case rel => exact ⟨HPw2.out.far HNgX.out HWgX.out 2 _, grown_far HBw2.out HLgX.out 2 _, blk_far HgRw2.out (p := ⟨gX, 2, none⟩) HDgRgX.out _, by
        have h9 := blk_set HgXw2.out 2 (.int .i64 2)
        simp only [List.setIfInBounds_toArray, List.set_cons_zero, List.set_cons_succ] at h9
        exact h9⟩
    | false =>
      have HO := Aside0.mk ho
      cases hr : takesB w_repeated st with
      | true =>
        have HR := Aside0.mk hr
        have hl3 : lb = 3 := by rw [← Alb.out, labV, if_neg (by rw [ho]; decide), if_pos hr]
        have HS : Aside0 ((st.1.tail, st.2) = s1) := ⟨by rw [← As1.out, labM, if_pos (by rw [hr, Bool.or_true])]⟩
        subst hl3
        clear ho hr
        go_wp2_with fail
        refine (takes_no w0 w1 p st HPw1 w_optional HO).mono ?_
        rintro e w' ⟨rfl, rfl⟩
        go_wp2_with fail
        refine (takes_yes w0 w1 p st HPw1 w_repeated HR s1 HS).mono ?_
        rintro e w2 ⟨rfl, HPw2, hb9⟩
        have HBw2 := Aside0.mk (HBw1.out.trans hb9.out)
        have HgRw2 := Aside0.mk (grown_block hb9.out HgRw1.out HNgR.out)
        have HgXw2 := Aside0.mk (grown_block hb9.out HgXw1.out HNgX.out)
        clear hb9 HPw1 HBw1 HgRw1 HgXw1
        have zgX2 : w2.cell? ⟨gX, 2, none⟩ = some (.int .i64 1) := blk_cell HgXw2.out 2
        have hfzgX := fun i => blk_frozen HgXw2.out i
        go_wp2_with fail
        go_meet
        case rel => exact ⟨HPw2.out.far HNgX.out HWgX.out 2 _, grown_far HBw2.out HLgX.out 2 _, blk_far HgRw2.out (p := ⟨gX, 2, none⟩) HDgRgX.out _, by
          have h9 := blk_set HgXw2.out 2 (.int .i64 3)
          simp only [List.setIfInBounds_toArray, List.set_cons_zero, List.set_cons_succ] at h9
          exact h9⟩
      | false =>
        have HR := Aside0.mk hr
        have hl1 : lb = 1 := by rw [← Alb.out, labV, if_neg (by rw [ho]; decide), if_neg (by rw [hr]; decide)]
        have HS : Aside0 (st = s1) := ⟨by rw [← As1.out, labM, if_neg (by rw [ho, hr]; decide)]⟩
        subst hl1
        clear ho hr
        go_wp2_with fail
        refine (takes_no w0 w1 p st HPw1 w_optional HO).mono ?_
        rintro e w' ⟨rfl, rfl⟩
        go_wp2_with fail
        refine (takes_no w0 w1 p st HPw1 w_repeated HR).mono ?_
        rintro e w' ⟨rfl, rfl⟩
        go_wp2_with fail
        go_meet
        case rel => exact ⟨by rw [← HS.out]; exact HPw1.out, HBw1.out, HgRw1.out, HgXw1.out⟩
  case rest =>
    obtain ⟨w50, hwN⟩ : ∃ x, x = wc := ⟨_, rfl⟩
    subst hwN
    have HPw50 := Aside0.mk hcut.out.1
    have HBw50 := Aside0.mk hcut.out.2.1
    have HgRw50 := Aside0.mk hcut.out.2.2.1
    have HgXw50 := Aside0.mk hcut.out.2.2.2
    clear hcut HPw1 HBw1 HgRw1 HgXw1
    go_wp2_with fail
    refine (kind_any w0 w50 p s1 HPw50 kd Akd tn Atn s2 As2).mono ?_
    rintro e w51 ⟨rfl, HPw51, hb9⟩
    have HBw51 := Aside0.mk (HBw50.out.trans hb9.out)
    have HgRw51 := Aside0.mk (grown_block hb9.out HgRw50.out HNgR.out)
    have HgXw51 := Aside0.mk (grown_block hb9.out HgXw50.out HNgX.out)
    clear hb9 HPw50 HBw50 HgRw50 HgXw50
    have zgX3 : w51.cell? ⟨gX, 3, none⟩ = some (.int .i64 0) := blk_cell HgXw51.out 3
    have zgX4 : w51.cell? ⟨gX, 4, none⟩ = some (.string ⟨#[]⟩) := blk_cell HgXw51.out 4
    have hfzgX := fun i => blk_frozen HgXw51.out i
    go_upto_region 7 with fail
    change Code.wp _ _ _ _ ((w51.setCell ⟨gX, 3, none⟩ (.int .i64 (kd : Int))).setCell ⟨gX, 4, none⟩ (.string tn))
    have hps := ((HPw51.out.far HNgX.out HWgX.out 3 (.int .i64 (kd : Int))).far HNgX.out HWgX.out 4 (.string tn))
    have hb9 := (grown_far (grown_far HBw51.out HLgX.out 3 (.int .i64 (kd : Int))) HLgX.out 4 (.string tn))
    have hk9 := (blk_set (blk_set HgXw51.out 3 (.int .i64 (kd : Int))) 4 (.string tn))
    simp only [List.setIfInBounds_toArray, List.set_cons_zero, List.set_cons_succ] at hk9
    have hkgR := (blk_far (blk_far HgRw51.out (p := ⟨gX, 3, none⟩) HDgRgX.out (.int .i64 (kd : Int))) (p := ⟨gX, 4, none⟩) HDgRgX.out (.string tn))
    obtain ⟨w52, hw9⟩ : ∃ x, ((w51.setCell ⟨gX, 3, none⟩ (.int .i64 (kd : Int))).setCell ⟨gX, 4, none⟩ (.string tn)) = x := ⟨_, rfl⟩
    rw [hw9] at hps hb9 hk9 hkgR ⊢
    have HPw52 := Aside0.mk hps
    have HBw52 := Aside0.mk hb9
    have HgXw52 := Aside0.mk hk9
    have HgRw52 := Aside0.mk hkgR
    clear hw9 hps hb9 hk9 hkgR zgX3 zgX4 hfzgX HPw51 HBw51 HgRw51 HgXw51
    go_wp2_with fail
    refine (pname_any w0 w52 p s2 HPw52 nm Anm s3 As3).mono ?_
    rintro e w53 ⟨rfl, HPw53, hb9⟩
    have HBw53 := Aside0.mk (HBw52.out.trans hb9.out)
    have HgRw53 := Aside0.mk (grown_block hb9.out HgRw52.out HNgR.out)
    have HgXw53 := Aside0.mk (grown_block hb9.out HgXw52.out HNgX.out)
    clear hb9 HPw52 HBw52 HgRw52 HgXw52
    have zgX0 : w53.cell? ⟨gX, 0, none⟩ = some (.string ⟨#[]⟩) := blk_cell HgXw53.out 0
    have hfzgX := fun i => blk_frozen HgXw53.out i
    go_upto_region 8 with fail
    change Code.wp _ _ _ _ (w53.setCell ⟨gX, 0, none⟩ (.string nm))
    have hps := (HPw53.out.far HNgX.out HWgX.out 0 (.string nm))
    have hb9 := (grown_far HBw53.out HLgX.out 0 (.string nm))
    have hk9 := (blk_set HgXw53.out 0 (.string nm))
    simp only [List.setIfInBounds_toArray, List.set_cons_zero, List.set_cons_succ] at hk9
    have hkgR := (blk_far HgRw53.out (p := ⟨gX, 0, none⟩) HDgRgX.out (.string nm))
    obtain ⟨w54, hw9⟩ : ∃ x, (w53.setCell ⟨gX, 0, none⟩ (.string nm)) = x := ⟨_, rfl⟩
    rw [hw9] at hps hb9 hk9 hkgR ⊢
    have HPw54 := Aside0.mk hps
    have HBw54 := Aside0.mk hb9
    have HgXw54 := Aside0.mk hk9
    have HgRw54 := Aside0.mk hkgR
    clear hw9 hps hb9 hk9 hkgR zgX0 hfzgX HPw53 HBw53 HgRw53 HgXw53
    go_wp2_with fail
    refine (needs_lit w0 w54 p s3 HPw54 [c_eq] (by decide) s4 ⟨As4.out⟩ _ rfl 1 rfl).mono ?_
    rintro e w55 ⟨rfl, HPw55, hb9⟩
    have HBw55 := Aside0.mk (HBw54.out.trans hb9.out)
    have HgRw55 := Aside0.mk (grown_block hb9.out HgRw54.out HNgR.out)
    have HgXw55 := Aside0.mk (grown_block hb9.out HgXw54.out HNgX.out)
    clear hb9 HPw54 HBw54 HgRw54 HgXw54
    go_wp2_with fail
    refine (pnumber_any w0 w55 p s4 HPw55 tg Atg s5 As5).mono ?_
    rintro e w56 ⟨rfl, HPw56, hb9⟩
    have HBw56 := Aside0.mk (HBw55.out.trans hb9.out)
    have HgRw56 := Aside0.mk (grown_block hb9.out HgRw55.out HNgR.out)
    have HgXw56 := Aside0.mk (grown_block hb9.out HgXw55.out HNgX.out)
    clear hb9 HPw55 HBw55 HgRw55 HgXw55
    have zgX1 : w56.cell? ⟨gX, 1, none⟩ = some (.int .i64 0) := blk_cell HgXw56.out 1
    have hfzgX := fun i => blk_frozen HgXw56.out i
    go_upto_region 10 with fail
    change Code.wp _ _ _ _ (w56.setCell ⟨gX, 1, none⟩ (.int .i64 (tg : Int)))
    have hps := (HPw56.out.far HNgX.out HWgX.out 1 (.int .i64 (tg : Int)))
    have hb9 := (grown_far HBw56.out HLgX.out 1 (.int .i64 (tg : Int)))
    have hk9 := (blk_set HgXw56.out 1 (.int .i64 (tg : Int)))
    simp only [List.setIfInBounds_toArray, List.set_cons_zero, List.set_cons_succ] at hk9
    have hkgR := (blk_far HgRw56.out (p := ⟨gX, 1, none⟩) HDgRgX.out (.int .i64 (tg : Int)))
    obtain ⟨w57, hw9⟩ : ∃ x, (w56.setCell ⟨gX, 1, none⟩ (.int .i64 (tg : Int))) = x := ⟨_, rfl⟩
    rw [hw9] at hps hb9 hk9 hkgR ⊢
    have HPw57 := Aside0.mk hps
    have HBw57 := Aside0.mk hb9
    have HgXw57 := Aside0.mk hk9
    have HgRw57 := Aside0.mk hkgR
    clear hw9 hps hb9 hk9 hkgR zgX1 hfzgX HPw56 HBw56 HgRw56 HgXw56
    go_wp2_with fail
    refine (needs_lit w0 w57 p s5 HPw57 [c_semi] (by decide) s6 ⟨As6.out⟩ _ rfl 1 rfl).mono ?_
    rintro e w58 ⟨rfl, HPw58, hb9⟩
    have HBw58 := Aside0.mk (HBw57.out.trans hb9.out)
    have HgRw58 := Aside0.mk (grown_block hb9.out HgRw57.out HNgR.out)
    have HgXw58 := Aside0.mk (grown_block hb9.out HgXw57.out HNgX.out)
    clear hb9 HPw57 HBw57 HgRw57 HgXw57
    have zgX0 : w58.cell? ⟨gX, 0, none⟩ = some (.string nm) := blk_cell HgXw58.out 0
    have zgX1 : w58.cell? ⟨gX, 1, none⟩ = some (.int .i64 (tg : Int)) := blk_cell HgXw58.out 1
    have zgX2 : w58.cell? ⟨gX, 2, none⟩ = some (.int .i64 (lb : Int)) := blk_cell HgXw58.out 2
    have zgX3 : w58.cell? ⟨gX, 3, none⟩ = some (.int .i64 (kd : Int)) := blk_cell HgXw58.out 3
    have zgX4 : w58.cell? ⟨gX, 4, none⟩ = some (.string tn) := blk_cell HgXw58.out 4
    have zgR0 : w58.cell? ⟨gR, 0, none⟩ = some (.string ⟨#[]⟩) := blk_cell HgRw58.out 0
    have zgR1 : w58.cell? ⟨gR, 1, none⟩ = some (.int .i64 0) := blk_cell HgRw58.out 1
    have zgR2 : w58.cell? ⟨gR, 2, none⟩ = some (.int .i64 0) := blk_cell HgRw58.out 2
    have zgR3 : w58.cell? ⟨gR, 3, none⟩ = some (.int .i64 0) := blk_cell HgRw58.out 3
    have zgR4 : w58.cell? ⟨gR, 4, none⟩ = some (.string ⟨#[]⟩) := blk_cell HgRw58.out 4
    have hfzgR := fun i => blk_frozen HgRw58.out i
    go_wp2_with fail
    change bodyPost _ _ _ _ _ (((((w58.setCell ⟨gR, 0, none⟩ (.string nm)).setCell ⟨gR, 1, none⟩ (.int .i64 (tg : Int))).setCell ⟨gR, 2, none⟩ (.int .i64 (lb : Int))).setCell ⟨gR, 3, none⟩ (.int .i64 (kd : Int))).setCell ⟨gR, 4, none⟩ (.string tn))
    have hps := (((((HPw58.out.far HNgR.out HWgR.out 0 (.string nm)).far HNgR.out HWgR.out 1 (.int .i64 (tg : Int))).far HNgR.out HWgR.out 2 (.int .i64 (lb : Int))).far HNgR.out HWgR.out 3 (.int .i64 (kd : Int))).far HNgR.out HWgR.out 4 (.string tn))
    have hb9 := (grown_far (grown_far (grown_far (grown_far (grown_far HBw58.out HLgR.out 0 (.string nm)) HLgR.out 1 (.int .i64 (tg : Int))) HLgR.out 2 (.int .i64 (lb : Int))) HLgR.out 3 (.int .i64 (kd : Int))) HLgR.out 4 (.string tn))
    have hk9 := (blk_set (blk_set (blk_set (blk_set (blk_set HgRw58.out 0 (.string nm)) 1 (.int .i64 (tg : Int))) 2 (.int .i64 (lb : Int))) 3 (.int .i64 (kd : Int))) 4 (.string tn))
    simp only [List.setIfInBounds_toArray, List.set_cons_zero, List.set_cons_succ] at hk9
    have hkgX := (blk_far (blk_far (blk_far (blk_far (blk_far HgXw58.out (p := ⟨gR, 0, none⟩) (fun e => HDgRgX.out e.symm) (.string nm)) (p := ⟨gR, 1, none⟩) (fun e => HDgRgX.out e.symm) (.int .i64 (tg : Int))) (p := ⟨gR, 2, none⟩) (fun e => HDgRgX.out e.symm) (.int .i64 (lb : Int))) (p := ⟨gR, 3, none⟩) (fun e => HDgRgX.out e.symm) (.int .i64 (kd : Int))) (p := ⟨gR, 4, none⟩) (fun e => HDgRgX.out e.symm) (.string tn))
    obtain ⟨w59, hw9⟩ : ∃ x, (((((w58.setCell ⟨gR, 0, none⟩ (.string nm)).setCell ⟨gR, 1, none⟩ (.int .i64 (tg : Int))).setCell ⟨gR, 2, none⟩ (.int .i64 (lb : Int))).setCell ⟨gR, 3, none⟩ (.int .i64 (kd : Int))).setCell ⟨gR, 4, none⟩ (.string tn)) = x := ⟨_, rfl⟩
    rw [hw9] at hps hb9 hk9 hkgX ⊢
    have HPw59 := Aside0.mk hps
    have HBw59 := Aside0.mk hb9
    have HgRw59 := Aside0.mk hk9
    have HgXw59 := Aside0.mk hkgX
    clear hw9 hps hb9 hk9 hkgX zgR0 zgR1 zgR2 zgR3 zgR4 hfzgR HPw58 HBw58 HgRw58 HgXw58
    clear zgX0 zgX1 zgX2 zgX3 zgX4
    have zgR0 : w59.cell? ⟨gR, 0, none⟩ = some (.string nm) := blk_cell HgRw59.out 0
    have zgR1 : w59.cell? ⟨gR, 1, none⟩ = some (.int .i64 (tg : Int)) := blk_cell HgRw59.out 1
    have zgR2 : w59.cell? ⟨gR, 2, none⟩ = some (.int .i64 (lb : Int)) := blk_cell HgRw59.out 2
    have zgR3 : w59.cell? ⟨gR, 3, none⟩ = some (.int .i64 (kd : Int)) := blk_cell HgRw59.out 3
    have zgR4 : w59.cell? ⟨gR, 4, none⟩ = some (.string tn) := blk_cell HgRw59.out 4
    refine bodyPost_ret (v := .agg #[.string nm, .int .i64 (tg : Int), .int .i64 (lb : Int), .int .i64 (kd : Int), .string tn]) ?_ rfl ?_
    · rw [results_cell rfl]
      go_simp
      first | rfl | done
    · exact ⟨by rw [HFV.out], ⟨by rw [HFM.out]; exact HPw59.out⟩, HBw59⟩
end Go.Proofs.YtbfhglaaombglaaDoor
end
section
namespace Go.Proofs.YtbfhglaaombglaaDoor
set_option linter.unusedVariables false
set_option linter.unusedSimpArgs false
open Go.RowKit Go.Proofs.YtbfhglaaombglaaDoorW.PrintWords
set_option maxRecDepth 100000 in
set_option maxHeartbeats 2000000 in
theorem call_any (w0 w : World) (p : Nat) (st : St) (H : Aside0 (PS w0 w p st)) :
    Calls Tryd.prog 37 #[.pointer (some ⟨p, 0, none⟩)] w fun e w' => e = .returned (.agg #[.string (callV st).name, .string (callV st).inn, .string (callV st).out]) ∧ Aside0 (PS w0 w' p (callM st)) ∧ Aside0 (w.grownBy w' (some p)) := by
  obtain ⟨s1, hs1⟩ : ∃ s, nameM st = s := ⟨_, rfl⟩
  obtain ⟨s2, hs2⟩ : ∃ s, need c_po s1 = s := ⟨_, rfl⟩
  obtain ⟨s3, hs3⟩ : ∃ s, nameM s2 = s := ⟨_, rfl⟩
  obtain ⟨s4, hs4⟩ : ∃ s, need c_po (need w_returns (need c_pc s3)) = s := ⟨_, rfl⟩
  obtain ⟨s5, hs5⟩ : ∃ s, nameM s4 = s := ⟨_, rfl⟩
  obtain ⟨s6, hs6⟩ : ∃ s, need c_semi (need c_pc s5) = s := ⟨_, rfl⟩
  obtain ⟨nm, hnm⟩ : ∃ x, nameV st = x := ⟨_, rfl⟩
  obtain ⟨ni, hni⟩ : ∃ x, nameV s2 = x := ⟨_, rfl⟩
  obtain ⟨no, hno⟩ : ∃ x, nameV s4 = x := ⟨_, rfl⟩
  have HFV : Aside0 (callV st = ⟨nm, ni, no⟩) := ⟨by rw [callV]; simp only [hs1, hs2, hs3, hs4, hnm, hni, hno]⟩
  have HFM : Aside0 (callM st = s6) := ⟨by rw [callM]; simp only [hs1, hs2, hs3, hs4, hs5, hs6]⟩
  have As1 := Aside0.mk hs1
  have As2 := Aside0.mk hs2
  have As3 := Aside0.mk hs3
  have As4 := Aside0.mk hs4
  have As5 := Aside0.mk hs5
  have As6 := Aside0.mk hs6
  have Anm := Aside0.mk hnm
  have Ani := Aside0.mk hni
  have Ano := Aside0.mk hno
  clear hs1 hs2 hs3 hs4 hs5 hs6 hnm hni hno
  have HLT := Aside0.mk H.out.lt
  go_enter Tryd.func37, Tryd.ntmps37
  go_upto_region 1 with fail
  change Code.wp _ _ _ _ (w.alloc (.cells #[.string ⟨#[]⟩, .string ⟨#[]⟩, .string ⟨#[]⟩] 72))
  have hbel : Below w.heap.size w (w.alloc (.cells #[.string ⟨#[]⟩, .string ⟨#[]⟩, .string ⟨#[]⟩] 72)) := ((Below.refl w.heap.size w).alloc (Nat.le_refl _) _)
  have hgR : (w.alloc (.cells #[.string ⟨#[]⟩, .string ⟨#[]⟩, .string ⟨#[]⟩] 72)).heap[w.heap.size]? = some (.cells #[.string ⟨#[]⟩, .string ⟨#[]⟩, .string ⟨#[]⟩] 72 (0, 0)) := by
    have h9 := heap_alloc_new w (.cells #[.string ⟨#[]⟩, .string ⟨#[]⟩, .string ⟨#[]⟩] 72)
    exact h9
  obtain ⟨gR, hggR⟩ : ∃ g, w.heap.size = g := ⟨_, rfl⟩
  have hps := H.out.below hbel
  obtain ⟨w1, hw9⟩ : ∃ x, (w.alloc (.cells #[.string ⟨#[]⟩, .string ⟨#[]⟩, .string ⟨#[]⟩] 72)) = x := ⟨_, rfl⟩
  rw [hggR, hw9] at hgR
  rw [hw9] at hps hbel ⊢
  have HPw1 := Aside0.mk hps
  have HBw1 := Aside0.mk (below_grownBy hbel (some p))
  have HgRw1 := Aside0.mk hgR
  have HLgR : Aside0 (w.heap.size ≤ gR) := ⟨by omega⟩
  have HNgR : Aside0 (gR ≠ p) := ⟨by have := HLT.out; omega⟩
  have HWgR : Aside0 (w0.heap.size ≤ gR) := ⟨Nat.le_trans H.out.bel.size HLgR.out⟩
  simp only [hggR]
  clear hw9 hps hbel hggR hgR
  go_wp2_with fail
  refine (pname_any w0 w1 p st HPw1 nm Anm s1 As1).mono ?_
  rintro e w2 ⟨rfl, HPw2, hb9⟩
  have HBw2 := Aside0.mk (HBw1.out.trans hb9.out)
  have HgRw2 := Aside0.mk (grown_block hb9.out HgRw1.out HNgR.out)
  clear hb9 HPw1 HBw1 HgRw1
  go_upto_region 2 with fail
  change Code.wp _ _ _ _ (w2.alloc (.cells #[.string nm, .string ⟨#[]⟩, .string ⟨#[]⟩] 72))
  have hbel : Below w2.heap.size w2 (w2.alloc (.cells #[.string nm, .string ⟨#[]⟩, .string ⟨#[]⟩] 72)) := (Below.refl _ _).alloc (Nat.le_refl _) _
  have hk9 := heap_alloc_new w2 (.cells #[.string nm, .string ⟨#[]⟩, .string ⟨#[]⟩] 72)
  have hps := HPw2.out.below hbel
  have hb9 := HBw2.out.trans (below_grownBy hbel (some p))
  have hkgR := (hbel.block _ (blk_lt HgRw2.out)).trans HgRw2.out
  obtain ⟨gX, hggX⟩ : ∃ g, w2.heap.size = g := ⟨_, rfl⟩
  have HLgX : Aside0 (w.heap.size ≤ gX) := ⟨by rw [← hggX]; exact HBw2.out.size⟩
  have HNgX : Aside0 (gX ≠ p) := ⟨by rw [← hggX]; exact fun e => by have := HPw2.out.lt; omega⟩
  have HWgX : Aside0 (w0.heap.size ≤ gX) := ⟨by rw [← hggX]; exact HPw2.out.bel.size⟩
  have HDgRgX : Aside0 (gR ≠ gX) := ⟨by rw [← hggX]; exact fun e => by have := blk_lt HgRw2.out; omega⟩
  obtain ⟨w3, hw9⟩ : ∃ x, w2.alloc (.cells #[.string nm, .string ⟨#[]⟩, .string ⟨#[]⟩] 72) = x := ⟨_, rfl⟩
  rw [hggX] at hk9
  rw [hw9] at hps hb9 hk9 hkgR ⊢
  have HPw3 := Aside0.mk hps
  have HBw3 := Aside0.mk hb9
  have HgXw3 := Aside0.mk hk9
  have HgRw3 := Aside0.mk hkgR
  simp only [hggX]
  clear hw9 hps hb9 hk9 hbel hggX hkgR HPw2 HBw2 HgRw2
  go_wp2_with fail
  refine (needs_lit w0 w3 p s1 HPw3 [c_po] (by decide) s2 ⟨As2.out⟩ _ rfl 1 rfl).mono ?_
  rintro e w4 ⟨rfl, HPw4, hb9⟩
  have HBw4 := Aside0.mk (HBw3.out.trans hb9.out)
  have HgRw4 := Aside0.mk (grown_block hb9.out HgRw3.out HNgR.out)
  have HgXw4 := Aside0.mk (grown_block hb9.out HgXw3.out HNgX.out)
  clear hb9 HPw3 HBw3 HgRw3 HgXw3
  go_wp2_with fail
  refine (pname_any w0 w4 p s2 HPw4 ni Ani s3 As3).mono ?_
  rintro e w5 ⟨rfl, HPw5, hb9⟩
  have HBw5 := Aside0.mk (HBw4.out.trans hb9.out)
  have HgRw5 := Aside0.mk (grown_block hb9.out HgRw4.out HNgR.out)
  have HgXw5 := Aside0.mk (grown_block hb9.out HgXw4.out HNgX.out)
  clear hb9 HPw4 HBw4 HgRw4 HgXw4
  have zgX1 : w5.cell? ⟨gX, 1, none⟩ = some (.string ⟨#[]⟩) := blk_cell HgXw5.out 1
  have hfzgX := fun i => blk_frozen HgXw5.out i
  go_upto_region 4 with fail
  change Code.wp _ _ _ _ (w5.setCell ⟨gX, 1, none⟩ (.string ni))
  have hps := (HPw5.out.far HNgX.out HWgX.out 1 (.string ni))
  have hb9 := (grown_far HBw5.out HLgX.out 1 (.string ni))
  have hk9 := (blk_set HgXw5.out 1 (.string ni))
  simp only [List.setIfInBounds_toArray, List.set_cons_zero, List.set_cons_succ] at hk9
  have hkgR := (blk_far HgRw5.out (p := ⟨gX, 1, none⟩) HDgRgX.out (.string ni))
  obtain ⟨w6, hw9⟩ : ∃ x, (w5.setCell ⟨gX, 1, none⟩ (.string ni)) = x := ⟨_, rfl⟩
  rw [hw9] at hps hb9 hk9 hkgR ⊢
  have HPw6 := Aside0.mk hps
  have HBw6 := Aside0.mk hb9
  have HgXw6 := Aside0.mk hk9
  have HgRw6 := Aside0.mk hkgR
  clear hw9 hps hb9 hk9 hkgR zgX1 hfzgX HPw5 HBw5 HgRw5 HgXw5
  go_wp2_with fail
  refine (needs_lit w0 w6 p s3 HPw6 [c_pc, w_returns, c_po] (by decide) s4 ⟨As4.out⟩ _ rfl 3 rfl).mono ?_
  rintro e w7 ⟨rfl, HPw7, hb9⟩
  have HBw7 := Aside0.mk (HBw6.out.trans hb9.out)
  have HgRw7 := Aside0.mk (grown_block hb9.out HgRw6.out HNgR.out)
  have HgXw7 := Aside0.mk (grown_block hb9.out HgXw6.out HNgX.out)
  clear hb9 HPw6 HBw6 HgRw6 HgXw6
  go_wp2_with fail
  refine (pname_any w0 w7 p s4 HPw7 no Ano s5 As5).mono ?_
  rintro e w8 ⟨rfl, HPw8, hb9⟩
  have HBw8 := Aside0.mk (HBw7.out.trans hb9.out)
  have HgRw8 := Aside0.mk (grown_block hb9.out HgRw7.out HNgR.out)
  have HgXw8 := Aside0.mk (grown_block hb9.out HgXw7.out HNgX.out)
  clear hb9 HPw7 HBw7 HgRw7 HgXw7
  have zgX2 : w8.cell? ⟨gX, 2, none⟩ = some (.string ⟨#[]⟩) := blk_cell HgXw8.out 2
  have hfzgX := fun i => blk_frozen HgXw8.out i
  go_upto_region 6 with fail
  change Code.wp _ _ _ _ (w8.setCell ⟨gX, 2, none⟩ (.string no))
  have hps := (HPw8.out.far HNgX.out HWgX.out 2 (.string no))
  have hb9 := (grown_far HBw8.out HLgX.out 2 (.string no))
  have hk9 := (blk_set HgXw8.out 2 (.string no))
  simp only [List.setIfInBounds_toArray, List.set_cons_zero, List.set_cons_succ] at hk9
  have hkgR := (blk_far HgRw8.out (p := ⟨gX, 2, none⟩) HDgRgX.out (.string no))
  obtain ⟨w9, hw9⟩ : ∃ x, (w8.setCell ⟨gX, 2, none⟩ (.string no)) = x := ⟨_, rfl⟩
  rw [hw9] at hps hb9 hk9 hkgR ⊢
  have HPw9 := Aside0.mk hps
  have HBw9 := Aside0.mk hb9
  have HgXw9 := Aside0.mk hk9
  have HgRw9 := Aside0.mk hkgR
  clear hw9 hps hb9 hk9 hkgR zgX2 hfzgX HPw8 HBw8 HgRw8 HgXw8
  go_wp2_with fail
  refine (needs_lit w0 w9 p s5 HPw9 [c_pc, c_semi] (by decide) s6 ⟨As6.out⟩ _ rfl 2 rfl).mono ?_
  rintro e w10 ⟨rfl, HPw10, hb9⟩
  have HBw10 := Aside0.mk (HBw9.out.trans hb9.out)
  have HgRw10 := Aside0.mk (grown_block hb9.out HgRw9.out HNgR.out)
  have HgXw10 := Aside0.mk (grown_block hb9.out HgXw9.out HNgX.out)
  clear hb9 HPw9 HBw9 HgRw9 HgXw9
  have zgX0 : w10.cell? ⟨gX, 0, none⟩ = some (.string nm) := blk_cell HgXw10.out 0
  have zgX1 : w10.cell? ⟨gX, 1, none⟩ = some (.string ni) := blk_cell HgXw10.out 1
  have zgX2 : w10.cell? ⟨gX, 2, none⟩ = some (.string no) := blk_cell HgXw10.out 2
  have zgR0 : w10.cell? ⟨gR, 0, none⟩ = some (.string ⟨#[]⟩) := blk_cell HgRw10.out 0
  have zgR1 : w10.cell? ⟨gR, 1, none⟩ = some (.string ⟨#[]⟩) := blk_cell HgRw10.out 1
  have zgR2 : w10.cell? ⟨gR, 2, none⟩ = some (.string ⟨#[]⟩) := blk_cell HgRw10.out 2
  have hfzgR := fun i => blk_frozen HgRw10.out i
  go_wp2_with fail
  change bodyPost _ _ _ _ _ (((w10.setCell ⟨gR, 0, none⟩ (.string nm)).setCell ⟨gR, 1, none⟩ (.string ni)).setCell ⟨gR, 2, none⟩ (.string no))
  have hps := (((HPw10.out.far HNgR.out HWgR.out 0 (.string nm)).far HNgR.out HWgR.out 1 (.string ni)).far HNgR.out HWgR.out 2 (.string no))
  have hb9 := (grown_far (grown_far (grown_far HBw10.out HLgR.out 0 (.string nm)) HLgR.out 1 (.string ni)) HLgR.out 2 (.string no))
  have hk9 := (blk_set (blk_set (blk_set HgRw10.out 0 (.string nm)) 1 (.string ni)) 2 (.string no))
  simp only [List.setIfInBounds_toArray, List.set_cons_zero, List.set_cons_succ] at hk9
  have hkgX := (blk_far (blk_far (blk_far HgXw10.out (p := ⟨gR, 0, none⟩) (fun e => HDgRgX.out e.symm) (.string nm)) (p := ⟨gR, 1, none⟩) (fun e => HDgRgX.out e.symm) (.string ni)) (p := ⟨gR, 2, none⟩) (fun e => HDgRgX.out e.symm) (.string no))
  obtain ⟨w11, hw9⟩ : ∃ x, (((w10.setCell ⟨gR, 0, none⟩ (.string nm)).setCell ⟨gR, 1, none⟩ (.string ni)).setCell ⟨gR, 2, none⟩ (.string no)) = x := ⟨_, rfl⟩
  rw [hw9] at hps hb9 hk9 hkgX ⊢
  have HPw11 := Aside0.mk hps
  have HBw11 := Aside0.mk hb9
  have HgRw11 := Aside0.mk hk9
  have HgXw11 := Aside0.mk hkgX
  clear hw9 hps hb9 hk9 hkgX zgR0 zgR1 zgR2 hfzgR HPw10 HBw10 HgRw10 HgXw10
  clear zgX0 zgX1 zgX2
  have zgR0 : w11.cell? ⟨gR, 0, none⟩ = some (.string nm) := blk_cell HgRw11.out 0
  have zgR1 : w11.cell? ⟨gR, 1, none⟩ = some (.string ni) := blk_cell HgRw11.out 1
  have zgR2 : w11.cell? ⟨gR, 2, none⟩ = some (.string no) := blk_cell HgRw11.out 2
  refine bodyPost_ret (v := .agg #[.string nm, .string ni, .string no]) ?_ rfl ?_
  · rw [results_cell rfl]
    go_simp
    first | rfl | done
  · exact ⟨by rw [HFV.out], ⟨by rw [HFM.out]; exact HPw11.out⟩, HBw11⟩
end Go.Proofs.YtbfhglaaombglaaDoor
end
section
namespace Go.Proofs.YtbfhglaaombglaaDoor
set_option linter.unusedVariables false
set_option linter.unusedSimpArgs false
open Go.RowKit Go.Proofs.YtbfhglaaombglaaDoorW.PrintWords Go.Proofs.YtbfhglaaombglaaDoor.PIdlParses
def nS (x : ByteArray × Nat) : S89 := ⟨x.1, (x.2 : Int)⟩
def fS (f : Fd) : S43 := ⟨f.name, (f.tag : Int), (f.label : Int), ⟨(kk7 f.kind : Int), f.tname⟩⟩
def eS (e : En) : S68 := ⟨e.name, e.vals.map nS⟩
def mS (m : Mt) : S72 := ⟨m.name, m.inn, m.out⟩
def nums_ (l : List Nat) : List Int := l.map fun (n : Nat) => (n : Int)
def gS (m : Mg) : S45 := ⟨m.name, m.fields.map fS, nums_ m.res⟩
theorem infoNamed : (Tryd.prog.info? 89).map (fun i => (i.zero, i.size, i.bytes)) = some (some (.agg #[.string ⟨#[]⟩, .int .i64 0]), 2, 24) := by kernel_rfl
theorem infoField : (Tryd.prog.info? 43).map (fun i => (i.zero, i.size, i.bytes)) = some (some (.agg #[.string ⟨#[]⟩, .int .i64 0, .int .i64 0, .int .i64 0, .string ⟨#[]⟩]), 5, 56) := by kernel_rfl
theorem infoInt : (Tryd.prog.info? 3).map (fun i => (i.zero, i.size, i.bytes)) = some (some (.int .i64 0), 1, 8) := by kernel_rfl
theorem infoMessage : (Tryd.prog.info? 45).map (fun i => (i.zero, i.size, i.bytes)) = some (some (.agg #[.string ⟨#[]⟩, .slice none 0 0, .slice none 0 0]), 3, 64) := by kernel_rfl
theorem infoEnum : (Tryd.prog.info? 68).map (fun i => (i.zero, i.size, i.bytes)) = some (some (.agg #[.string ⟨#[]⟩, .slice none 0 0]), 2, 40) := by kernel_rfl
theorem infoMethod : (Tryd.prog.info? 72).map (fun i => (i.zero, i.size, i.bytes)) = some (some (.agg #[.string ⟨#[]⟩, .string ⟨#[]⟩, .string ⟨#[]⟩]), 3, 48) := by kernel_rfl
/-- A row of the call's own has grown: the parser stays. -/
theorem app_frame {α : Type} {d : Kd α} {w0 w W w1 : World} {p : Nat} {s : St} {e : TypeId} {v : Value} {xs : List α} {ok : Nat → Prop} (HP : PS w0 W p s) (HB : w.grownBy W (some p)) (hw : w0.heap.size ≤ w.heap.size)
    (hv : d.R e W w.heap.size ok v xs) (he : e ≠ 54) (hg : W.grownBy w1 v.ownBlock) : PS w0 w1 p s ∧ w.grownBy w1 (some p) := by
  have hb : ∀ k, v.ownBlock = some k → w.heap.size ≤ k := fun k hk => by
    obtain ⟨inner, ho⟩ := Kd.R_own hv
    exact own_base ho k hk
  obtain ⟨u, hk⟩ := HP.wrong
  exact ⟨HP.other hg (Kd.R_ne hv hk he) (fun k hk => Nat.le_trans hw (hb k hk)), HB.andThen hg (fun j hj => .inl (hb j hj))⟩
theorem row_far {α : Type} {d : Kd α} {e : TypeId} {W : World} {base : Nat} {ok : Nat → Prop} {v : Value} {xs : List α} (h : d.R e W base ok v xs) {g t : Nat} {cells : Array Value} (hk : W.heap[g]? = some (.cells cells t (0, 0))) (ht : ∀ q, q ∈ e :: d.E → q ≠ t) (j : Nat) (u : Value) : d.R e (W.setCell ⟨g, j, none⟩ u) base ok v xs := Kd.R_set h hk ht j u
/-- The parser was called: a row stays. -/
theorem row_call {α : Type} {d : Kd α} {e : TypeId} {w0 W w1 : World} {base p : Nat} {ok : Nat → Prop} {s : St} {v : Value} {xs : List α} (h : d.R e W base ok v xs) (HP : PS w0 W p s) (ht : ∀ q, q ∈ e :: d.E → q ≠ 54) (hg : W.grownBy w1 (some p)) : d.R e w1 base ok v xs := by
  obtain ⟨u, hk⟩ := HP.wrong
  exact Kd.R_mono (Kd.R_step (Kd.R_types h hk ht) (fun k hk hl => hg.block k hl (fun e => hk.2 (Option.some.inj e)))) (fun _ hk => hk.1)
/-- Another row has grown. -/
theorem row_other {α β : Type} {d : Kd α} {d' : Kd β} {e e' : TypeId} {W w1 : World} {base base' : Nat} {ok ok' : Nat → Prop} {v v' : Value} {xs : List α} {ys : List β} (h : d.R e W base ok v xs) (h' : d'.R e' W base' ok' v' ys) (ht : ∀ q, q ∈ e :: d.E → q ≠ e') (hg : W.grownBy w1 v'.ownBlock) : d.R e w1 base ok v xs := by
  refine Kd.R_mono (Kd.R_step (Kd.R_bound h) (fun k hk hl => hg.block k hl (fun e9 => ?_))) (fun _ hk => hk.1)
  obtain ⟨_, _, _, q, hq, cells, hc⟩ := hk
  obtain ⟨inner, ho⟩ := Kd.R_own h'
  obtain ⟨cells', hc'⟩ := own_typed ho k e9.symm
  rw [hc] at hc'
  injection hc' with hc'
  injection hc' with _ hc'
  exact ht q hq hc'
end Go.Proofs.YtbfhglaaombglaaDoor
end
section
namespace Go.Proofs.YtbfhglaaombglaaDoor
set_option linter.unusedVariables false
set_option linter.unusedSimpArgs false
open Go.RowKit Go.Proofs.YtbfhglaaombglaaDoorW.PrintWords Go.Proofs.YtbfhglaaombglaaDoor.PIdlParses
set_option maxRecDepth 100000 in
set_option maxHeartbeats 4000000 in
theorem enum_any (w0 w : World) (p : Nat) (st : St) (H : Aside0 (PS w0 w p st)) :
    Calls Tryd.prog 36 #[.pointer (some ⟨p, 0, none⟩)] w fun e w' => ∃ vV, e = .returned (.agg #[.string (enumV st).name, vV]) ∧ Aside0 (k89.R 89 w' w.heap.size (fun _ => True) vV ((enumV st).vals.map nS)) ∧ Aside0 (PS w0 w' p (enumM st)) ∧ Aside0 (w.grownBy w' (some p)) := by
  have hmu0 : mu (need c_open (nameM st)) ≤ 20001 := by
    have h1 := mu_name st
    have h2 := mu_need c_open (nameM st)
    have h3 : mu st ≤ 20001 := by have := H.out.len; unfold mu; split <;> omega
    omega
  obtain ⟨s1, hs1⟩ : ∃ s, nameM st = s := ⟨_, rfl⟩
  obtain ⟨s2, hs2⟩ : ∃ s, need c_open s1 = s := ⟨_, rfl⟩
  obtain ⟨nm, hnm⟩ : ∃ x, nameV st = x := ⟨_, rfl⟩
  obtain ⟨LL, S6, hE⟩ : ∃ a b, enumA [] s2 = (a, b) := ⟨_, _, rfl⟩
  have HFV : Aside0 (enumV st = ⟨nm, LL⟩) := ⟨by rw [enumV, hs1, hs2, hE, hnm]⟩
  have HFM : Aside0 (enumM st = S6) := ⟨by rw [enumM, hs1, hs2, hE]⟩
  rw [hs1, hs2] at hmu0
  have As1 := Aside0.mk hs1
  have As2 := Aside0.mk hs2
  have Anm := Aside0.mk hnm
  have HE0 := Aside0.mk hE
  clear hs1 hs2 hnm hE
  have HLT := Aside0.mk H.out.lt
  go_enter Tryd.func36, Tryd.ntmps36
  go_upto_region 1 with fail
  change Code.wp _ _ _ _ (w.alloc (.cells #[.string ⟨#[]⟩, .slice none 0 0] 68))
  have hbel : Below w.heap.size w (w.alloc (.cells #[.string ⟨#[]⟩, .slice none 0 0] 68)) := ((Below.refl w.heap.size w).alloc (Nat.le_refl _) _)
  have hgR : (w.alloc (.cells #[.string ⟨#[]⟩, .slice none 0 0] 68)).heap[w.heap.size]? = some (.cells #[.string ⟨#[]⟩, .slice none 0 0] 68 (0, 0)) := by
    have h9 := heap_alloc_new w (.cells #[.string ⟨#[]⟩, .slice none 0 0] 68)
    exact h9
  obtain ⟨gR, hggR⟩ : ∃ g, w.heap.size = g := ⟨_, rfl⟩
  have hps := H.out.below hbel
  obtain ⟨w1, hw9⟩ : ∃ x, (w.alloc (.cells #[.string ⟨#[]⟩, .slice none 0 0] 68)) = x := ⟨_, rfl⟩
  rw [hggR, hw9] at hgR
  rw [hw9] at hps hbel ⊢
  have HPw1 := Aside0.mk hps
  have HBw1 := Aside0.mk (below_grownBy hbel (some p))
  have HgRw1 := Aside0.mk hgR
  have HLgR : Aside0 (w.heap.size ≤ gR) := ⟨by omega⟩
  have HNgR : Aside0 (gR ≠ p) := ⟨by have := HLT.out; omega⟩
  have HWgR : Aside0 (w0.heap.size ≤ gR) := ⟨Nat.le_trans H.out.bel.size HLgR.out⟩
  simp only [hggR]
  clear hw9 hps hbel hggR hgR
  go_wp2_with fail
  refine (pname_any w0 w1 p st HPw1 nm Anm s1 As1).mono ?_
  rintro e w2 ⟨rfl, HPw2, hb9⟩
  have HBw2 := Aside0.mk (HBw1.out.trans hb9.out)
  have HgRw2 := Aside0.mk (grown_block hb9.out HgRw1.out HNgR.out)
  clear hb9 HPw1 HBw1 HgRw1
  go_upto_region 2 with fail
  change Code.wp _ _ _ _ (w2.alloc (.cells #[.string nm, .slice none 0 0] 68))
  have hbel : Below w2.heap.size w2 (w2.alloc (.cells #[.string nm, .slice none 0 0] 68)) := (Below.refl _ _).alloc (Nat.le_refl _) _
  have hk9 := heap_alloc_new w2 (.cells #[.string nm, .slice none 0 0] 68)
  have hps := HPw2.out.below hbel
  have hb9 := HBw2.out.trans (below_grownBy hbel (some p))
  have hkgR := (hbel.block _ (blk_lt HgRw2.out)).trans HgRw2.out
  obtain ⟨gX, hggX⟩ : ∃ g, w2.heap.size = g := ⟨_, rfl⟩
  have HLgX : Aside0 (w.heap.size ≤ gX) := ⟨by rw [← hggX]; exact HBw2.out.size⟩
  have HNgX : Aside0 (gX ≠ p) := ⟨by rw [← hggX]; exact fun e => by have := HPw2.out.lt; omega⟩
  have HWgX : Aside0 (w0.heap.size ≤ gX) := ⟨by rw [← hggX]; exact HPw2.out.bel.size⟩
  have HDgRgX : Aside0 (gR ≠ gX) := ⟨by rw [← hggX]; exact fun e => by have := blk_lt HgRw2.out; omega⟩
  obtain ⟨w3, hw9⟩ : ∃ x, w2.alloc (.cells #[.string nm, .slice none 0 0] 68) = x := ⟨_, rfl⟩
  rw [hggX] at hk9
  rw [hw9] at hps hb9 hk9 hkgR ⊢
  have HPw3 := Aside0.mk hps
  have HBw3 := Aside0.mk hb9
  have HgXw3 := Aside0.mk hk9
  have HgRw3 := Aside0.mk hkgR
  simp only [hggX]
  clear hw9 hps hb9 hk9 hbel hggX hkgR HPw2 HBw2 HgRw2
  go_wp2_with fail
  refine (needs_lit w0 w3 p s1 HPw3 [c_open] (by decide) s2 ⟨As2.out⟩ _ rfl 1 rfl).mono ?_
  rintro e w4 ⟨rfl, HPw4, hb9⟩
  have HBw4 := Aside0.mk (HBw3.out.trans hb9.out)
  have HgRw4 := Aside0.mk (grown_block hb9.out HgRw3.out HNgR.out)
  have HgXw4 := Aside0.mk (grown_block hb9.out HgXw3.out HNgX.out)
  clear hb9 HPw3 HBw3 HgRw3 HgXw3
  go_wp2_with fail
  go_loopw [] (fun wr => ∃ (l : List (ByteArray × Nat)) (q : List S89) (s : St) (A : Option Addr) (c : Nat), Aside0 (l.map nS = q) ∧ Aside0 (enumA l s = (LL, S6)) ∧ q.length + mu s ≤ 20001 ∧ Aside0 (PS w0 wr p s) ∧ Aside0 (w.grownBy wr (some p)) ∧ Aside0 (wr.heap[gR]? = some (.cells #[.string ⟨#[]⟩, .slice none 0 0] 68 (0, 0))) ∧ Aside0 (wr.heap[gX]? = some (.cells #[.string nm, .slice A q.length c] 68 (0, 0))) ∧ Aside0 (k89.R 89 wr w.heap.size (fun _ => True) (.slice A q.length c) (q))) (fun wr => muW wr p)
  case atStart => exact ⟨[], [], s2, none, 0, ⟨rfl⟩, HE0, by simpa using hmu0, HPw4, HBw4, HgRw4, HgXw4, ⟨Kd.R_nil _ _ _ _ _⟩⟩
  case round =>
    clear HE0 hmu0 HPw4 HBw4 HgRw4 HgXw4
    obtain ⟨l, q, s, A, c, HLQ, HE, hls, HPwr, HBwr, HgRwr, HgXwr, HQwr⟩ := hrel
    have HM := Aside0.mk HPwr.out.mu
    obtain ⟨u9, hk9⟩ := HPwr.out.wrong
    have c1 : wr.cell? ⟨p, 1, none⟩ = some (.bool s.2) := blk_cell hk9 1
    clear hk9
    cases hb : s.2 with
    | true =>
      rw [hb] at c1
      have hE2 := HE.out
      rw [enumA_done l s hb] at hE2
      obtain ⟨rfl, rfl⟩ := Prod.mk.inj hE2
      clear hE2 hb
      have zgX0 : wr.cell? ⟨gX, 0, none⟩ = some (.string nm) := blk_cell HgXwr.out 0
      have zgX1 : wr.cell? ⟨gX, 1, none⟩ = some (.slice A q.length c) := blk_cell HgXwr.out 1
      have zgR0 : wr.cell? ⟨gR, 0, none⟩ = some (.string ⟨#[]⟩) := blk_cell HgRwr.out 0
      have zgR1 : wr.cell? ⟨gR, 1, none⟩ = some (.slice none 0 0) := blk_cell HgRwr.out 1
      have hfzgR := fun i => blk_frozen HgRwr.out i
      go_wp2_with fail
      change bodyPost _ _ _ _ _ ((wr.setCell ⟨gR, 0, none⟩ (.string nm)).setCell ⟨gR, 1, none⟩ (.slice A q.length c))
      have hps := ((HPwr.out.far HNgR.out HWgR.out 0 (.string nm)).far HNgR.out HWgR.out 1 (.slice A q.length c))
      have hb9 := (grown_far (grown_far HBwr.out HLgR.out 0 (.string nm)) HLgR.out 1 (.slice A q.length c))
      have hk9 := (blk_set (blk_set HgRwr.out 0 (.string nm)) 1 (.slice A q.length c))
      simp only [List.setIfInBounds_toArray, List.set_cons_zero, List.set_cons_succ] at hk9
      have hkgX := (blk_far (blk_far HgXwr.out (p := ⟨gR, 0, none⟩) (fun e => HDgRgX.out e.symm) (.string nm)) (p := ⟨gR, 1, none⟩) (fun e => HDgRgX.out e.symm) (.slice A q.length c))
      have hrQ := (row_far (row_far HQwr.out HgRwr.out (by decide) 0 (.string nm)) (blk_set HgRwr.out 0 (.string nm)) (by decide) 1 (.slice A q.length c))
      obtain ⟨w5, hw9⟩ : ∃ x, ((wr.setCell ⟨gR, 0, none⟩ (.string nm)).setCell ⟨gR, 1, none⟩ (.slice A q.length c)) = x := ⟨_, rfl⟩
      rw [hw9] at hps hb9 hk9 hkgX hrQ ⊢
      have HPw5 := Aside0.mk hps
      have HBw5 := Aside0.mk hb9
      have HgRw5 := Aside0.mk hk9
      have HgXw5 := Aside0.mk hkgX
      have HQw5 := Aside0.mk hrQ
      clear hw9 hps hb9 hk9 hkgX hrQ zgR0 zgR1 hfzgR HPwr HBwr HgRwr HgXwr HQwr
      clear zgX0 zgX1
      have zgR0 : w5.cell? ⟨gR, 0, none⟩ = some (.string nm) := blk_cell HgRw5.out 0
      have zgR1 : w5.cell? ⟨gR, 1, none⟩ = some (.slice A q.length c) := blk_cell HgRw5.out 1
      refine bodyPost_ret (v := .agg #[.string nm, .slice A q.length c]) ?_ rfl ?_
      · rw [results_cell rfl]
        go_simp
        first | rfl | done
      · exact ⟨_, by rw [HFV.out], ⟨by rw [HFV.out]; simp only [HLQ.out]; exact HQw5.out⟩, ⟨by rw [HFM.out]; exact HPw5.out⟩, HBw5⟩
    | false =>
      rw [hb] at c1
      cases ht : takesB c_close s with
      | true =>
        have HT := Aside0.mk ht
        have hE2 := HE.out
        rw [enumA_close l s ht, takesM, if_pos ht] at hE2
        obtain ⟨rfl, hS6⟩ := Prod.mk.inj hE2
        have HS6 := Aside0.mk hS6
        clear hE2 hb ht hS6
        go_wp2_with fail
        refine (takes_yes w0 wr p s HPwr c_close HT S6 HS6).mono ?_
        rintro e w6 ⟨rfl, HPw6, hb9⟩
        have HBw6 := Aside0.mk (HBwr.out.trans hb9.out)
        have HgRw6 := Aside0.mk (grown_block hb9.out HgRwr.out HNgR.out)
        have HgXw6 := Aside0.mk (grown_block hb9.out HgXwr.out HNgX.out)
        have HQw6 := Aside0.mk (row_call HQwr.out HPwr.out (by decide) hb9.out)
        clear hb9 HPwr HBwr HgRwr HgXwr HQwr
        have zgX0 : w6.cell? ⟨gX, 0, none⟩ = some (.string nm) := blk_cell HgXw6.out 0
        have zgX1 : w6.cell? ⟨gX, 1, none⟩ = some (.slice A q.length c) := blk_cell HgXw6.out 1
        have zgR0 : w6.cell? ⟨gR, 0, none⟩ = some (.string ⟨#[]⟩) := blk_cell HgRw6.out 0
        have zgR1 : w6.cell? ⟨gR, 1, none⟩ = some (.slice none 0 0) := blk_cell HgRw6.out 1
        have hfzgR := fun i => blk_frozen HgRw6.out i
        go_wp2_with fail
        change bodyPost _ _ _ _ _ ((w6.setCell ⟨gR, 0, none⟩ (.string nm)).setCell ⟨gR, 1, none⟩ (.slice A q.length c))
        have hps := ((HPw6.out.far HNgR.out HWgR.out 0 (.string nm)).far HNgR.out HWgR.out 1 (.slice A q.length c))
        have hb9 := (grown_far (grown_far HBw6.out HLgR.out 0 (.string nm)) HLgR.out 1 (.slice A q.length c))
        have hk9 := (blk_set (blk_set HgRw6.out 0 (.string nm)) 1 (.slice A q.length c))
        simp only [List.setIfInBounds_toArray, List.set_cons_zero, List.set_cons_succ] at hk9
        have hkgX := (blk_far (blk_far HgXw6.out (p := ⟨gR, 0, none⟩) (fun e => HDgRgX.out e.symm) (.string nm)) (p := ⟨gR, 1, none⟩) (fun e => HDgRgX.out e.symm) (.slice A q.length c))
        have hrQ := (row_far (row_far HQw6.out HgRw6.out (by decide) 0 (.string nm)) (blk_set HgRw6.out 0 (.string nm)) (by decide) 1 (.slice A q.length c))
        obtain ⟨w7, hw9⟩ : ∃ x, ((w6.setCell ⟨gR, 0, none⟩ (.string nm)).setCell ⟨gR, 1, none⟩ (.slice A q.length c)) = x := ⟨_, rfl⟩
        rw [hw9] at hps hb9 hk9 hkgX hrQ ⊢
        have HPw7 := Aside0.mk hps
        have HBw7 := Aside0.mk hb9
        have HgRw7 := Aside0.mk hk9
        have HgXw7 := Aside0.mk hkgX
        have HQw7 := Aside0.mk hrQ
        clear hw9 hps hb9 hk9 hkgX hrQ zgR0 zgR1 hfzgR HPw6 HBw6 HgRw6 HgXw6 HQw6
        clear zgX0 zgX1
        have zgR0 : w7.cell? ⟨gR, 0, none⟩ = some (.string nm) := blk_cell HgRw7.out 0
        have zgR1 : w7.cell? ⟨gR, 1, none⟩ = some (.slice A q.length c) := blk_cell HgRw7.out 1
        refine bodyPost_ret (v := .agg #[.string nm, .slice A q.length c]) ?_ rfl ?_
        · rw [results_cell rfl]
          go_simp
          first | rfl | done
        · exact ⟨_, by rw [HFV.out], ⟨by rw [HFV.out]; simp only [HLQ.out]; exact HQw7.out⟩, ⟨by rw [HFM.out]; exact HPw7.out⟩, HBw7⟩
      | false =>
        have HT := Aside0.mk ht
        have hm1 := mu_val s
        have hm2 := mu_pos hb
        have HE2 : Aside0 (enumA (l ++ [valV s]) (valM s) = (LL, S6)) := ⟨by rw [← enumA_val l s hb ht]; exact HE.out⟩
        have hls2 : q.length + 1 + mu (valM s) ≤ 20001 := by omega
        have HMM : Aside0 (mu (valM s) < mu s) := ⟨by omega⟩
        obtain ⟨t1, ht1⟩ : ∃ x, nameM s = x := ⟨_, rfl⟩
        obtain ⟨t2, ht2⟩ : ∃ x, need c_eq t1 = x := ⟨_, rfl⟩
        obtain ⟨t3, ht3⟩ : ∃ x, numM t2 = x := ⟨_, rfl⟩
        obtain ⟨t4, ht4⟩ : ∃ x, need c_semi t3 = x := ⟨_, rfl⟩
        obtain ⟨n, hn⟩ : ∃ x, nameV s = x := ⟨_, rfl⟩
        obtain ⟨k, hk⟩ : ∃ x, numV t2 = x := ⟨_, rfl⟩
        have hvv : valV s = (n, k) := by rw [valV, ht1, ht2, hn, hk]
        have hvm : valM s = t4 := by rw [valM, ht1, ht2, ht3, ht4]
        rw [hvv, hvm] at HE2
        rw [hvm] at hls2 HMM
        have At1 := Aside0.mk ht1
        have At2 := Aside0.mk ht2
        have At3 := Aside0.mk ht3
        have At4 := Aside0.mk ht4
        have An := Aside0.mk hn
        have Ak := Aside0.mk hk
        have HLS := Aside0.mk hls2
        clear hvv hvm ht1 ht2 ht3 ht4 hn hk hm1 hm2 hb ht hls2 HE
        go_wp2_with fail
        refine (takes_no w0 wr p s HPwr c_close HT).mono ?_
        rintro e w' ⟨rfl, rfl⟩
        clear c1
        go_wp2_with fail
        refine (pname_any w0 wr p s HPwr n An t1 At1).mono ?_
        rintro e w8 ⟨rfl, HPw8, hb9⟩
        have HBw8 := Aside0.mk (HBwr.out.trans hb9.out)
        have HgRw8 := Aside0.mk (grown_block hb9.out HgRwr.out HNgR.out)
        have HgXw8 := Aside0.mk (grown_block hb9.out HgXwr.out HNgX.out)
        have HQw8 := Aside0.mk (row_call HQwr.out HPwr.out (by decide) hb9.out)
        clear hb9 HPwr HBwr HgRwr HgXwr HQwr
        go_upto_region 5 with fail
        change Code.wp _ _ _ _ (w8.alloc (.cells #[.string n, .int .i64 0] 89))
        have hbel : Below w8.heap.size w8 (w8.alloc (.cells #[.string n, .int .i64 0] 89)) := (Below.refl _ _).alloc (Nat.le_refl _) _
        have hk9 := heap_alloc_new w8 (.cells #[.string n, .int .i64 0] 89)
        have hps := HPw8.out.below hbel
        have hb9 := HBw8.out.trans (below_grownBy hbel (some p))
        have hkgR := (hbel.block _ (blk_lt HgRw8.out)).trans HgRw8.out
        have hkgX := (hbel.block _ (blk_lt HgXw8.out)).trans HgXw8.out
        have hrQ := Kd.R_below (Kd.R_mono (ok' := fun k => k ≠ w8.heap.size) (Kd.R_bound HQw8.out) (fun k hk => Nat.ne_of_lt hk.2.2.1)) hbel
        obtain ⟨gV, hggV⟩ : ∃ g, w8.heap.size = g := ⟨_, rfl⟩
        have HLgV : Aside0 (w.heap.size ≤ gV) := ⟨by rw [← hggV]; exact HBw8.out.size⟩
        have HNgV : Aside0 (gV ≠ p) := ⟨by rw [← hggV]; exact fun e => by have := HPw8.out.lt; omega⟩
        have HWgV : Aside0 (w0.heap.size ≤ gV) := ⟨by rw [← hggV]; exact HPw8.out.bel.size⟩
        have HDgRgV : Aside0 (gR ≠ gV) := ⟨by rw [← hggV]; exact fun e => by have := blk_lt HgRw8.out; omega⟩
        have HDgXgV : Aside0 (gX ≠ gV) := ⟨by rw [← hggV]; exact fun e => by have := blk_lt HgXw8.out; omega⟩
        obtain ⟨w9, hw9⟩ : ∃ x, w8.alloc (.cells #[.string n, .int .i64 0] 89) = x := ⟨_, rfl⟩
        rw [hggV] at hk9
        rw [hggV] at hrQ
        rw [hw9] at hps hb9 hk9 hkgR hkgX hrQ ⊢
        have HPw9 := Aside0.mk hps
        have HBw9 := Aside0.mk hb9
        have HgVw9 := Aside0.mk hk9
        have HgRw9 := Aside0.mk hkgR
        have HgXw9 := Aside0.mk hkgX
        have HQw9 := Aside0.mk hrQ
        simp only [hggV]
        clear hw9 hps hb9 hk9 hbel hggV hkgR hkgX hrQ HPw8 HBw8 HgRw8 HgXw8 HQw8
        go_wp2_with fail
        refine (needs_lit w0 w9 p t1 HPw9 [c_eq] (by decide) t2 ⟨At2.out⟩ _ rfl 1 rfl).mono ?_
        rintro e w10 ⟨rfl, HPw10, hb9⟩
        have HBw10 := Aside0.mk (HBw9.out.trans hb9.out)
        have HgRw10 := Aside0.mk (grown_block hb9.out HgRw9.out HNgR.out)
        have HgXw10 := Aside0.mk (grown_block hb9.out HgXw9.out HNgX.out)
        have HgVw10 := Aside0.mk (grown_block hb9.out HgVw9.out HNgV.out)
        have HQw10 := Aside0.mk (row_call HQw9.out HPw9.out (by decide) hb9.out)
        clear hb9 HPw9 HBw9 HgRw9 HgXw9 HgVw9 HQw9
        go_wp2_with fail
        refine (pnumber_any w0 w10 p t2 HPw10 k Ak t3 At3).mono ?_
        rintro e w11 ⟨rfl, HPw11, hb9⟩
        have HBw11 := Aside0.mk (HBw10.out.trans hb9.out)
        have HgRw11 := Aside0.mk (grown_block hb9.out HgRw10.out HNgR.out)
        have HgXw11 := Aside0.mk (grown_block hb9.out HgXw10.out HNgX.out)
        have HgVw11 := Aside0.mk (grown_block hb9.out HgVw10.out HNgV.out)
        have HQw11 := Aside0.mk (row_call HQw10.out HPw10.out (by decide) hb9.out)
        clear hb9 HPw10 HBw10 HgRw10 HgXw10 HgVw10 HQw10
        have zgV1 : w11.cell? ⟨gV, 1, none⟩ = some (.int .i64 0) := blk_cell HgVw11.out 1
        have hfzgV := fun i => blk_frozen HgVw11.out i
        go_upto_region 7 with fail
        change Code.wp _ _ _ _ (w11.setCell ⟨gV, 1, none⟩ (.int .i64 (k : Int)))
        have hps := (HPw11.out.far HNgV.out HWgV.out 1 (.int .i64 (k : Int)))
        have hb9 := (grown_far HBw11.out HLgV.out 1 (.int .i64 (k : Int)))
        have hk9 := (blk_set HgVw11.out 1 (.int .i64 (k : Int)))
        simp only [List.setIfInBounds_toArray, List.set_cons_zero, List.set_cons_succ] at hk9
        have hkgR := (blk_far HgRw11.out (p := ⟨gV, 1, none⟩) HDgRgV.out (.int .i64 (k : Int)))
        have hkgX := (blk_far HgXw11.out (p := ⟨gV, 1, none⟩) HDgXgV.out (.int .i64 (k : Int)))
        have hrQ := (Kd.R_far HQw11.out (p := ⟨gV, 1, none⟩) (fun k hk => hk) (.int .i64 (k : Int)))
        obtain ⟨w12, hw9⟩ : ∃ x, (w11.setCell ⟨gV, 1, none⟩ (.int .i64 (k : Int))) = x := ⟨_, rfl⟩
        rw [hw9] at hps hb9 hk9 hkgR hkgX hrQ ⊢
        have HPw12 := Aside0.mk hps
        have HBw12 := Aside0.mk hb9
        have HgVw12 := Aside0.mk hk9
        have HgRw12 := Aside0.mk hkgR
        have HgXw12 := Aside0.mk hkgX
        have HQw12 := Aside0.mk hrQ
        clear hw9 hps hb9 hk9 hkgR hkgX hrQ zgV1 hfzgV HPw11 HBw11 HgRw11 HgXw11 HgVw11 HQw11
        go_wp2_with fail
        refine (needs_lit w0 w12 p t3 HPw12 [c_semi] (by decide) t4 ⟨At4.out⟩ _ rfl 1 rfl).mono ?_
        rintro e w13 ⟨rfl, HPw13, hb9⟩
        have HBw13 := Aside0.mk (HBw12.out.trans hb9.out)
        have HgRw13 := Aside0.mk (grown_block hb9.out HgRw12.out HNgR.out)
        have HgXw13 := Aside0.mk (grown_block hb9.out HgXw12.out HNgX.out)
        have HgVw13 := Aside0.mk (grown_block hb9.out HgVw12.out HNgV.out)
        have HQw13 := Aside0.mk (row_call HQw12.out HPw12.out (by decide) hb9.out)
        clear hb9 HPw12 HBw12 HgRw12 HgXw12 HgVw12 HQw12
        have zgV0 : w13.cell? ⟨gV, 0, none⟩ = some (.string n) := blk_cell HgVw13.out 0
        have zgV1 : w13.cell? ⟨gV, 1, none⟩ = some (.int .i64 (k : Int)) := blk_cell HgVw13.out 1
        have zgX1 : w13.cell? ⟨gX, 1, none⟩ = some (.slice A q.length c) := blk_cell HgXw13.out 1
        clear HgVw13
        go_wp2_with (at_builtin; refine Kd.R_append k89 (w0 := w13) (W := w13) w.heap.size ?hgd (.tmp 34) (.tmp 36) 66 89 (.agg #[.string ⟨#[]⟩, .int .i64 0]) 24 ?ho ?ht ?hinfo ?hz ?hs0 ?hb0 (.slice A q.length c) (q) (nS (n, k)) [.string n, .int .i64 (k : Int)] (fun _ => True) (fun _ => False) ?hs ?hx ?hp ?hokp ?hfresh ?HO ?HB ?hbase ?hl ?h)
        case hgd => rfl
        case ho => rfl
        case ht => exact Tryd.underlying66
        case hinfo => exact infoNamed
        case hz => rfl
        case hs0 => decide
        case hb0 => decide
        case hs => rfl
        case hx => rfl
        case hp => exact k89_mkM _ _ _ (nS (n, k))
        case hokp => exact fun _ h => h.elim
        case hfresh => exact fun _ _ => trivial
        case HO => exact Kd.R_mono HQw13.out (fun _ _ => trivial)
        case HB => exact Below.refl _ _
        case hbase => exact HBw13.out.size
        case hl => omega
        case h =>
          intro v9 w14 hr9 hb9 hg9 hat9
          obtain ⟨A9, c9, rfl⟩ := Kd.R_slice hr9
          obtain ⟨hp9, hf9⟩ := app_frame HPw13.out HBw13.out H.out.bel.size HQw13.out (by decide) hg9
          have hkgR := blk_grown HgRw13.out hg9 (Kd.R_ne HQw13.out HgRw13.out (by decide))
          have hkgX := blk_grown HgXw13.out hg9 (Kd.R_ne HQw13.out HgXw13.out (by decide))
          have HPw14 := Aside0.mk hp9
          have HBw14 := Aside0.mk hf9
          have HQw14 := Aside0.mk hr9
          have HgRw14 := Aside0.mk hkgR
          have HgXw14 := Aside0.mk hkgX
          clear hr9 hb9 hg9 hat9 hp9 hf9 hkgR hkgX HPw13 HBw13 HgRw13 HgXw13 HQw13
          clear zgV0 zgV1 zgX1
          have zgX1 : w14.cell? ⟨gX, 1, none⟩ = some (.slice A q.length c) := blk_cell HgXw14.out 1
          have hfzgX := fun i => blk_frozen HgXw14.out i
          go_wp2_with fail
          have hps := HPw14.out.far HNgX.out HWgX.out 1 (.slice A9 (q ++ [nS (n, k)]).length c9)
          have hb9 := grown_far HBw14.out HLgX.out 1 (.slice A9 (q ++ [nS (n, k)]).length c9)
          have hk9 := blk_set HgXw14.out 1 (.slice A9 (q ++ [nS (n, k)]).length c9)
          simp only [List.setIfInBounds_toArray, List.set_cons_zero, List.set_cons_succ] at hk9
          have hkR := blk_far HgRw14.out (p := ⟨gX, 1, none⟩) HDgRgX.out (.slice A9 (q ++ [nS (n, k)]).length c9)
          have hr9 := row_far HQw14.out HgXw14.out (by decide) 1 (.slice A9 (q ++ [nS (n, k)]).length c9)
          have hmm := hps.mu
          obtain ⟨q2, hq2⟩ : ∃ q2, q ++ [nS (n, k)] = q2 := ⟨_, rfl⟩
          have hq3 : q2.length = q.length + 1 := by rw [← hq2]; simp
          have HQ2 : Aside0 ((l ++ [(n, k)]).map nS = q2) := ⟨by rw [List.map_append, HLQ.out]; exact hq2⟩
          have HLS2 : Aside0 (q2.length + mu t4 ≤ 20001) := ⟨by rw [hq3]; exact HLS.out⟩
          simp only [List.length_append, List.length_cons, List.length_nil, Nat.zero_add] at hk9 hr9 hps hb9 hkR hmm
          have AQ2 := Aside0.mk hq2
          have AQ3 := Aside0.mk hq3
          clear hq2 hq3
          have HP9 := Aside0.mk hps
          have HB9 := Aside0.mk hb9
          have HK9 := Aside0.mk hk9
          have HR9 := Aside0.mk hr9
          have HKR9 := Aside0.mk hkR
          have HMM9 := Aside0.mk hmm
          clear hps hb9 hk9 hr9 hkR hmm
          go_roundw
          case rel => exact ⟨l ++ [(n, k)], q2, t4, A9, c9, HQ2, HE2, HLS2.out, HP9, HB9, HKR9, ⟨by rw [AQ3.out]; exact HK9.out⟩, ⟨by rw [AQ3.out, ← AQ2.out]; exact HR9.out⟩⟩
          case measure => rw [HMM9.out, HM.out]; exact HMM.out
end Go.Proofs.YtbfhglaaombglaaDoor
end
section
namespace Go.Proofs.YtbfhglaaombglaaDoor
set_option linter.unusedVariables false
set_option linter.unusedSimpArgs false
open Go.RowKit Go.Proofs.YtbfhglaaombglaaDoorW.PrintWords Go.Proofs.YtbfhglaaombglaaDoor.PIdlParses
theorem field_any2 (w0 w : World) (p : Nat) (st : St) (H : Aside0 (PS w0 w p st)) (f : Fd) (hf : Aside0 (fieldV st = f)) (s2 : St) (hs : Aside0 (fieldM st = s2)) :
    Calls Tryd.prog 55 #[.pointer (some ⟨p, 0, none⟩)] w fun e w' => e = .returned (.agg #[.string f.name, .int .i64 (f.tag : Int), .int .i64 (f.label : Int), .int .i64 (kk7 f.kind : Int), .string f.tname]) ∧ Aside0 (PS w0 w' p s2) ∧ Aside0 (w.grownBy w' (some p)) := by
  have h := field_any w0 w p st H
  rw [hf.out, hs.out] at h
  exact h
set_option maxRecDepth 100000 in
set_option maxHeartbeats 8000000 in
theorem message_any (w0 w : World) (p : Nat) (st : St) (H : Aside0 (PS w0 w p st)) :
    Calls Tryd.prog 35 #[.pointer (some ⟨p, 0, none⟩)] w fun e w' => ∃ vF vN, e = .returned (.agg #[.string (messV st).name, vF, vN]) ∧ Aside0 (k43.R 43 w' w.heap.size (fun _ => True) vF ((messV st).fields.map fS)) ∧ Aside0 ((Kd.int .i64).R 3 w' w.heap.size (fun _ => True) vN (nums_ (messV st).res)) ∧ Aside0 (PS w0 w' p (messM st)) ∧ Aside0 (w.grownBy w' (some p)) := by
  have hmu0 : mu (need c_open (nameM st)) ≤ 20001 := by
    have h1 := mu_name st
    have h2 := mu_need c_open (nameM st)
    have h3 : mu st ≤ 20001 := by have := H.out.len; unfold mu; split <;> omega
    omega
  obtain ⟨s1, hs1⟩ : ∃ s, nameM st = s := ⟨_, rfl⟩
  obtain ⟨s2, hs2⟩ : ∃ s, need c_open s1 = s := ⟨_, rfl⟩
  obtain ⟨nm, hnm⟩ : ∃ x, nameV st = x := ⟨_, rfl⟩
  obtain ⟨FF, RR, S6, hE⟩ : ∃ a b c, msgA [] [] s2 = (a, b, c) := ⟨_, _, _, rfl⟩
  have HFV : Aside0 (messV st = ⟨nm, FF, RR⟩) := ⟨by rw [messV]; simp only [hs1, hs2, hE, hnm]⟩
  have HFM : Aside0 (messM st = S6) := ⟨by rw [messM, hs1, hs2, hE]⟩
  rw [hs1, hs2] at hmu0
  have As1 := Aside0.mk hs1
  have As2 := Aside0.mk hs2
  have Anm := Aside0.mk hnm
  have HE0 := Aside0.mk hE
  clear hs1 hs2 hnm hE
  have HLT := Aside0.mk H.out.lt
  go_enter Tryd.func35, Tryd.ntmps35
  go_upto_region 1 with fail
  change Code.wp _ _ _ _ (w.alloc (.cells #[.string ⟨#[]⟩, .slice none 0 0, .slice none 0 0] 45))
  have hbel : Below w.heap.size w (w.alloc (.cells #[.string ⟨#[]⟩, .slice none 0 0, .slice none 0 0] 45)) := ((Below.refl w.heap.size w).alloc (Nat.le_refl _) _)
  have hgR : (w.alloc (.cells #[.string ⟨#[]⟩, .slice none 0 0, .slice none 0 0] 45)).heap[w.heap.size]? = some (.cells #[.string ⟨#[]⟩, .slice none 0 0, .slice none 0 0] 45 (0, 0)) := by
    have h9 := heap_alloc_new w (.cells #[.string ⟨#[]⟩, .slice none 0 0, .slice none 0 0] 45)
    exact h9
  obtain ⟨gR, hggR⟩ : ∃ g, w.heap.size = g := ⟨_, rfl⟩
  have hps := H.out.below hbel
  obtain ⟨w1, hw9⟩ : ∃ x, (w.alloc (.cells #[.string ⟨#[]⟩, .slice none 0 0, .slice none 0 0] 45)) = x := ⟨_, rfl⟩
  rw [hggR, hw9] at hgR
  rw [hw9] at hps hbel ⊢
  have HPw1 := Aside0.mk hps
  have HBw1 := Aside0.mk (below_grownBy hbel (some p))
  have HgRw1 := Aside0.mk hgR
  have HLgR : Aside0 (w.heap.size ≤ gR) := ⟨by omega⟩
  have HNgR : Aside0 (gR ≠ p) := ⟨by have := HLT.out; omega⟩
  have HWgR : Aside0 (w0.heap.size ≤ gR) := ⟨Nat.le_trans H.out.bel.size HLgR.out⟩
  simp only [hggR]
  clear hw9 hps hbel hggR hgR
  go_wp2_with fail
  refine (pname_any w0 w1 p st HPw1 nm Anm s1 As1).mono ?_
  rintro e w2 ⟨rfl, HPw2, hb9⟩
  have HBw2 := Aside0.mk (HBw1.out.trans hb9.out)
  have HgRw2 := Aside0.mk (grown_block hb9.out HgRw1.out HNgR.out)
  clear hb9 HPw1 HBw1 HgRw1
  go_upto_region 2 with fail
  change Code.wp _ _ _ _ (w2.alloc (.cells #[.string nm, .slice none 0 0, .slice none 0 0] 45))
  have hbel : Below w2.heap.size w2 (w2.alloc (.cells #[.string nm, .slice none 0 0, .slice none 0 0] 45)) := (Below.refl _ _).alloc (Nat.le_refl _) _
  have hk9 := heap_alloc_new w2 (.cells #[.string nm, .slice none 0 0, .slice none 0 0] 45)
  have hps := HPw2.out.below hbel
  have hb9 := HBw2.out.trans (below_grownBy hbel (some p))
  have hkgR := (hbel.block _ (blk_lt HgRw2.out)).trans HgRw2.out
  obtain ⟨gX, hggX⟩ : ∃ g, w2.heap.size = g := ⟨_, rfl⟩
  have HLgX : Aside0 (w.heap.size ≤ gX) := ⟨by rw [← hggX]; exact HBw2.out.size⟩
  have HNgX : Aside0 (gX ≠ p) := ⟨by rw [← hggX]; exact fun e => by have := HPw2.out.lt; omega⟩
  have HWgX : Aside0 (w0.heap.size ≤ gX) := ⟨by rw [← hggX]; exact HPw2.out.bel.size⟩
  have HDgRgX : Aside0 (gR ≠ gX) := ⟨by rw [← hggX]; exact fun e => by have := blk_lt HgRw2.out; omega⟩
  obtain ⟨w3, hw9⟩ : ∃ x, w2.alloc (.cells #[.string nm, .slice none 0 0, .slice none 0 0] 45) = x := ⟨_, rfl⟩
  rw [hggX] at hk9
  rw [hw9] at hps hb9 hk9 hkgR ⊢
  have HPw3 := Aside0.mk hps
  have HBw3 := Aside0.mk hb9
  have HgXw3 := Aside0.mk hk9
  have HgRw3 := Aside0.mk hkgR
  simp only [hggX]
  clear hw9 hps hb9 hk9 hbel hggX hkgR HPw2 HBw2 HgRw2
  go_wp2_with fail
  refine (needs_lit w0 w3 p s1 HPw3 [c_open] (by decide) s2 ⟨As2.out⟩ _ rfl 1 rfl).mono ?_
  rintro e w4 ⟨rfl, HPw4, hb9⟩
  have HBw4 := Aside0.mk (HBw3.out.trans hb9.out)
  have HgRw4 := Aside0.mk (grown_block hb9.out HgRw3.out HNgR.out)
  have HgXw4 := Aside0.mk (grown_block hb9.out HgXw3.out HNgX.out)
  clear hb9 HPw3 HBw3 HgRw3 HgXw3
  go_wp2_with fail
  go_loopw [] (fun wr => ∃ (f : List Fd) (q : List S43) (r : List Nat) (ri : List Int) (s : St) (A : Option Addr) (c : Nat) (Ar : Option Addr) (cr : Nat), Aside0 (f.map fS = q) ∧ Aside0 (nums_ r = ri) ∧ Aside0 (msgA f r s = (FF, RR, S6)) ∧ q.length + mu s ≤ 20001 ∧ ri.length + mu s ≤ 20001 ∧ Aside0 (PS w0 wr p s) ∧ Aside0 (w.grownBy wr (some p)) ∧ Aside0 (wr.heap[gR]? = some (.cells #[.string ⟨#[]⟩, .slice none 0 0, .slice none 0 0] 45 (0, 0))) ∧ Aside0 (wr.heap[gX]? = some (.cells #[.string nm, .slice A q.length c, .slice Ar ri.length cr] 45 (0, 0))) ∧ Aside0 (k43.R 43 wr w.heap.size (fun _ => True) (.slice A q.length c) (q)) ∧ Aside0 ((Kd.int .i64).R 3 wr w.heap.size (fun _ => True) (.slice Ar ri.length cr) (ri))) (fun wr => muW wr p)
  case atStart => exact ⟨[], [], [], [], s2, none, 0, none, 0, ⟨rfl⟩, ⟨rfl⟩, HE0, by simpa using hmu0, by simpa using hmu0, HPw4, HBw4, HgRw4, HgXw4, ⟨Kd.R_nil _ _ _ _ _⟩, ⟨Kd.R_nil _ _ _ _ _⟩⟩
  case round =>
    clear HE0 hmu0 HPw4 HBw4 HgRw4 HgXw4
    obtain ⟨f, q, r, ri, s, A, c, Ar, cr, HFQ, HRQ, HE, hls, hlr, HPwr, HBwr, HgRwr, HgXwr, HFwr, HNwr⟩ := hrel
    obtain ⟨wo, hwo⟩ : ∃ x, x = wr := ⟨_, rfl⟩
    subst hwo
    have HPwo := HPwr
    have HBwo := HBwr
    have HgRwo := HgRwr
    have HgXwo := HgXwr
    have HFwo := HFwr
    have HNwo := HNwr
    clear HPwr HBwr HgRwr HgXwr HFwr HNwr
    have HM := Aside0.mk HPwo.out.mu
    obtain ⟨u9, hk9⟩ := HPwo.out.wrong
    have c1 : wo.cell? ⟨p, 1, none⟩ = some (.bool s.2) := blk_cell hk9 1
    clear hk9
    cases hb : s.2 with
    | true =>
      rw [hb] at c1
      have hE2 := HE.out
      rw [msgA_done f r s hb] at hE2
      obtain ⟨rfl, hE3⟩ := Prod.mk.inj hE2
      obtain ⟨rfl, rfl⟩ := Prod.mk.inj hE3
      clear hE2 hE3 hb
      have zgX0 : wo.cell? ⟨gX, 0, none⟩ = some (.string nm) := blk_cell HgXwo.out 0
      have zgX1 : wo.cell? ⟨gX, 1, none⟩ = some (.slice A q.length c) := blk_cell HgXwo.out 1
      have zgX2 : wo.cell? ⟨gX, 2, none⟩ = some (.slice Ar ri.length cr) := blk_cell HgXwo.out 2
      have zgR0 : wo.cell? ⟨gR, 0, none⟩ = some (.string ⟨#[]⟩) := blk_cell HgRwo.out 0
      have zgR1 : wo.cell? ⟨gR, 1, none⟩ = some (.slice none 0 0) := blk_cell HgRwo.out 1
      have zgR2 : wo.cell? ⟨gR, 2, none⟩ = some (.slice none 0 0) := blk_cell HgRwo.out 2
      have hfzgR := fun i => blk_frozen HgRwo.out i
      go_wp2_with fail
      change bodyPost _ _ _ _ _ (((wo.setCell ⟨gR, 0, none⟩ (.string nm)).setCell ⟨gR, 1, none⟩ (.slice A q.length c)).setCell ⟨gR, 2, none⟩ (.slice Ar ri.length cr))
      have hps := (((HPwo.out.far HNgR.out HWgR.out 0 (.string nm)).far HNgR.out HWgR.out 1 (.slice A q.length c)).far HNgR.out HWgR.out 2 (.slice Ar ri.length cr))
      have hb9 := (grown_far (grown_far (grown_far HBwo.out HLgR.out 0 (.string nm)) HLgR.out 1 (.slice A q.length c)) HLgR.out 2 (.slice Ar ri.length cr))
      have hk9 := (blk_set (blk_set (blk_set HgRwo.out 0 (.string nm)) 1 (.slice A q.length c)) 2 (.slice Ar ri.length cr))
      simp only [List.setIfInBounds_toArray, List.set_cons_zero, List.set_cons_succ] at hk9
      have hkgX := (blk_far (blk_far (blk_far HgXwo.out (p := ⟨gR, 0, none⟩) (fun e => HDgRgX.out e.symm) (.string nm)) (p := ⟨gR, 1, none⟩) (fun e => HDgRgX.out e.symm) (.slice A q.length c)) (p := ⟨gR, 2, none⟩) (fun e => HDgRgX.out e.symm) (.slice Ar ri.length cr))
      have hrF := (row_far (row_far (row_far HFwo.out HgRwo.out (by decide) 0 (.string nm)) (blk_set HgRwo.out 0 (.string nm)) (by decide) 1 (.slice A q.length c)) (blk_set (blk_set HgRwo.out 0 (.string nm)) 1 (.slice A q.length c)) (by decide) 2 (.slice Ar ri.length cr))
      have hrN := (row_far (row_far (row_far HNwo.out HgRwo.out (by decide) 0 (.string nm)) (blk_set HgRwo.out 0 (.string nm)) (by decide) 1 (.slice A q.length c)) (blk_set (blk_set HgRwo.out 0 (.string nm)) 1 (.slice A q.length c)) (by decide) 2 (.slice Ar ri.length cr))
      obtain ⟨w5, hw9⟩ : ∃ x, (((wo.setCell ⟨gR, 0, none⟩ (.string nm)).setCell ⟨gR, 1, none⟩ (.slice A q.length c)).setCell ⟨gR, 2, none⟩ (.slice Ar ri.length cr)) = x := ⟨_, rfl⟩
      rw [hw9] at hps hb9 hk9 hkgX hrF hrN ⊢
      have HPw5 := Aside0.mk hps
      have HBw5 := Aside0.mk hb9
      have HgRw5 := Aside0.mk hk9
      have HgXw5 := Aside0.mk hkgX
      have HFw5 := Aside0.mk hrF
      have HNw5 := Aside0.mk hrN
      clear hw9 hps hb9 hk9 hkgX hrF hrN zgR0 zgR1 zgR2 hfzgR HPwo HBwo HgRwo HgXwo HFwo HNwo
      clear zgX0 zgX1 zgX2
      have zgR0 : w5.cell? ⟨gR, 0, none⟩ = some (.string nm) := blk_cell HgRw5.out 0
      have zgR1 : w5.cell? ⟨gR, 1, none⟩ = some (.slice A q.length c) := blk_cell HgRw5.out 1
      have zgR2 : w5.cell? ⟨gR, 2, none⟩ = some (.slice Ar ri.length cr) := blk_cell HgRw5.out 2
      refine bodyPost_ret (v := .agg #[.string nm, .slice A q.length c, .slice Ar ri.length cr]) ?_ rfl ?_
      · rw [results_cell rfl]
        go_simp
        first | rfl | done
      · exact ⟨_, _, by rw [HFV.out], ⟨by rw [HFV.out]; simp only [HFQ.out]; exact HFw5.out⟩, ⟨by rw [HFV.out]; simp only [HRQ.out]; exact HNw5.out⟩, ⟨by rw [HFM.out]; exact HPw5.out⟩, HBw5⟩
    | false =>
      rw [hb] at c1
      cases ht : takesB c_close s with
      | true =>
        have HT := Aside0.mk ht
        have hE2 := HE.out
        rw [msgA_close f r s ht, takesM, if_pos ht] at hE2
        obtain ⟨rfl, hE3⟩ := Prod.mk.inj hE2
        obtain ⟨rfl, hS6⟩ := Prod.mk.inj hE3
        have HS6 := Aside0.mk hS6
        clear hE2 hE3 hb ht hS6
        go_wp2_with fail
        refine (takes_yes w0 wo p s HPwo c_close HT S6 HS6).mono ?_
        rintro e w6 ⟨rfl, HPw6, hb9⟩
        have HBw6 := Aside0.mk (HBwo.out.trans hb9.out)
        have HgRw6 := Aside0.mk (grown_block hb9.out HgRwo.out HNgR.out)
        have HgXw6 := Aside0.mk (grown_block hb9.out HgXwo.out HNgX.out)
        have HFw6 := Aside0.mk (row_call HFwo.out HPwo.out (by decide) hb9.out)
        have HNw6 := Aside0.mk (row_call HNwo.out HPwo.out (by decide) hb9.out)
        clear hb9 HPwo HBwo HgRwo HgXwo HFwo HNwo
        have zgX0 : w6.cell? ⟨gX, 0, none⟩ = some (.string nm) := blk_cell HgXw6.out 0
        have zgX1 : w6.cell? ⟨gX, 1, none⟩ = some (.slice A q.length c) := blk_cell HgXw6.out 1
        have zgX2 : w6.cell? ⟨gX, 2, none⟩ = some (.slice Ar ri.length cr) := blk_cell HgXw6.out 2
        have zgR0 : w6.cell? ⟨gR, 0, none⟩ = some (.string ⟨#[]⟩) := blk_cell HgRw6.out 0
        have zgR1 : w6.cell? ⟨gR, 1, none⟩ = some (.slice none 0 0) := blk_cell HgRw6.out 1
        have zgR2 : w6.cell? ⟨gR, 2, none⟩ = some (.slice none 0 0) := blk_cell HgRw6.out 2
        have hfzgR := fun i => blk_frozen HgRw6.out i
        go_wp2_with fail
        change bodyPost _ _ _ _ _ (((w6.setCell ⟨gR, 0, none⟩ (.string nm)).setCell ⟨gR, 1, none⟩ (.slice A q.length c)).setCell ⟨gR, 2, none⟩ (.slice Ar ri.length cr))
        have hps := (((HPw6.out.far HNgR.out HWgR.out 0 (.string nm)).far HNgR.out HWgR.out 1 (.slice A q.length c)).far HNgR.out HWgR.out 2 (.slice Ar ri.length cr))
        have hb9 := (grown_far (grown_far (grown_far HBw6.out HLgR.out 0 (.string nm)) HLgR.out 1 (.slice A q.length c)) HLgR.out 2 (.slice Ar ri.length cr))
        have hk9 := (blk_set (blk_set (blk_set HgRw6.out 0 (.string nm)) 1 (.slice A q.length c)) 2 (.slice Ar ri.length cr))
        simp only [List.setIfInBounds_toArray, List.set_cons_zero, List.set_cons_succ] at hk9
        have hkgX := (blk_far (blk_far (blk_far HgXw6.out (p := ⟨gR, 0, none⟩) (fun e => HDgRgX.out e.symm) (.string nm)) (p := ⟨gR, 1, none⟩) (fun e => HDgRgX.out e.symm) (.slice A q.length c)) (p := ⟨gR, 2, none⟩) (fun e => HDgRgX.out e.symm) (.slice Ar ri.length cr))
        have hrF := (row_far (row_far (row_far HFw6.out HgRw6.out (by decide) 0 (.string nm)) (blk_set HgRw6.out 0 (.string nm)) (by decide) 1 (.slice A q.length c)) (blk_set (blk_set HgRw6.out 0 (.string nm)) 1 (.slice A q.length c)) (by decide) 2 (.slice Ar ri.length cr))
        have hrN := (row_far (row_far (row_far HNw6.out HgRw6.out (by decide) 0 (.string nm)) (blk_set HgRw6.out 0 (.string nm)) (by decide) 1 (.slice A q.length c)) (blk_set (blk_set HgRw6.out 0 (.string nm)) 1 (.slice A q.length c)) (by decide) 2 (.slice Ar ri.length cr))
        obtain ⟨w7, hw9⟩ : ∃ x, (((w6.setCell ⟨gR, 0, none⟩ (.string nm)).setCell ⟨gR, 1, none⟩ (.slice A q.length c)).setCell ⟨gR, 2, none⟩ (.slice Ar ri.length cr)) = x := ⟨_, rfl⟩
        rw [hw9] at hps hb9 hk9 hkgX hrF hrN ⊢
        have HPw7 := Aside0.mk hps
        have HBw7 := Aside0.mk hb9
        have HgRw7 := Aside0.mk hk9
        have HgXw7 := Aside0.mk hkgX
        have HFw7 := Aside0.mk hrF
        have HNw7 := Aside0.mk hrN
        clear hw9 hps hb9 hk9 hkgX hrF hrN zgR0 zgR1 zgR2 hfzgR HPw6 HBw6 HgRw6 HgXw6 HFw6 HNw6
        clear zgX0 zgX1 zgX2
        have zgR0 : w7.cell? ⟨gR, 0, none⟩ = some (.string nm) := blk_cell HgRw7.out 0
        have zgR1 : w7.cell? ⟨gR, 1, none⟩ = some (.slice A q.length c) := blk_cell HgRw7.out 1
        have zgR2 : w7.cell? ⟨gR, 2, none⟩ = some (.slice Ar ri.length cr) := blk_cell HgRw7.out 2
        refine bodyPost_ret (v := .agg #[.string nm, .slice A q.length c, .slice Ar ri.length cr]) ?_ rfl ?_
        · rw [results_cell rfl]
          go_simp
          first | rfl | done
        · exact ⟨_, _, by rw [HFV.out], ⟨by rw [HFV.out]; simp only [HFQ.out]; exact HFw7.out⟩, ⟨by rw [HFV.out]; simp only [HRQ.out]; exact HNw7.out⟩, ⟨by rw [HFM.out]; exact HPw7.out⟩, HBw7⟩
      | false =>
        have HT := Aside0.mk ht
        cases hre : takesB w_reserved s with
        | true =>
          have HRE := Aside0.mk hre
          have hm1 := mu_takes hre
          have hm2 := mu_num (takesM w_reserved s)
          have hm3 := mu_msg_res r hre
          have HE2 : Aside0 (msgA f (resA (r ++ [numV (takesM w_reserved s)]) (numM (takesM w_reserved s))).1 (need c_semi (resA (r ++ [numV (takesM w_reserved s)]) (numM (takesM w_reserved s))).2) = (FF, RR, S6)) := ⟨by rw [← msgA_res f r s ht hre]; exact HE.out⟩
          obtain ⟨t1, ht1⟩ : ∃ x, takesM w_reserved s = x := ⟨_, rfl⟩
          obtain ⟨t2, ht2⟩ : ∃ x, numM t1 = x := ⟨_, rfl⟩
          obtain ⟨k, hk⟩ : ∃ x, numV t1 = x := ⟨_, rfl⟩
          rw [ht1] at hm1 hm2 hm3 HE2
          rw [ht2] at hm2 hm3 HE2
          rw [hk] at hm3 HE2
          obtain ⟨R2, T2, hres⟩ : ∃ a b, resA (r ++ [k]) t2 = (a, b) := ⟨_, _, rfl⟩
          rw [hres] at hm3 HE2
          obtain ⟨t9, ht9⟩ : ∃ x, need c_semi T2 = x := ⟨_, rfl⟩
          rw [ht9] at hm3
          have hm4 := mu_res _ (r ++ [k]) t2 (Nat.le_refl _)
          rw [hres] at hm4
          have hm5 := mu_need c_semi T2
          rw [ht9] at hm5
          have HT1 : Aside0 ((s.1.tail, s.2) = t1) := ⟨by rw [← ht1, takesM, if_pos hre]⟩
          have HE3 : Aside0 (msgA f R2 t9 = (FF, RR, S6)) := ⟨by rw [← ht9]; exact HE2.out⟩
          have hq9 : q.length + mu t9 ≤ 20001 := by omega
          have HQ9 := Aside0.mk hq9
          have hr8 : ri.length + 1 + mu t2 ≤ 20001 := by omega
          have hr7 : ri.length ≤ 20001 := by omega
          have HM9 : Aside0 (mu t9 < mu s) := ⟨hm3⟩
          have At2 := Aside0.mk ht2
          have Ak := Aside0.mk hk
          have At9 := Aside0.mk ht9
          have HRES := Aside0.mk hres
          have HM5 := Aside0.mk hm5
          clear hm1 hm2 hm3 hm4 hm5 ht1 ht2 hk hres ht9 hre ht hb HE HE2 hq9
          go_wp2_with fail
          refine (takes_no w0 wo p s HPwo c_close HT).mono ?_
          rintro e w' ⟨rfl, rfl⟩
          clear c1
          go_wp2_with fail
          refine (takes_yes w0 wo p s HPwo w_reserved HRE t1 HT1).mono ?_
          rintro e w8 ⟨rfl, HPw8, hb9⟩
          have HBw8 := Aside0.mk (HBwo.out.trans hb9.out)
          have HgRw8 := Aside0.mk (grown_block hb9.out HgRwo.out HNgR.out)
          have HgXw8 := Aside0.mk (grown_block hb9.out HgXwo.out HNgX.out)
          have HFw8 := Aside0.mk (row_call HFwo.out HPwo.out (by decide) hb9.out)
          have HNw8 := Aside0.mk (row_call HNwo.out HPwo.out (by decide) hb9.out)
          clear hb9 HPwo HBwo HgRwo HgXwo HFwo HNwo
          go_upto_region 5 with fail
          have HPd := Aside0.mk (HPw8.out.below (Below.refl w8.heap.size w8).drew)
          have HBd := Aside0.mk (HBw8.out.trans (below_grownBy (Below.refl w8.heap.size w8).drew (some p)))
          have HFd := Aside0.mk (Kd.R_below HFw8.out (Below.refl w8.heap.size w8).drew)
          have HNd := Aside0.mk (Kd.R_below HNw8.out (Below.refl w8.heap.size w8).drew)
          have kd9 : w8.drew.cell? ⟨gX, 2, none⟩ = some (.slice Ar ri.length cr) := blk_cell HgXw8.out 2
          go_cut [] (fun wd => ∃ A9 c9, Aside0 (PS w0 wd p t2) ∧ Aside0 (w.grownBy wd (some p)) ∧ Aside0 (wd.heap[gR]? = some (.cells #[.string ⟨#[]⟩, .slice none 0 0, .slice none 0 0] 45 (0, 0))) ∧ Aside0 (wd.heap[gX]? = some (.cells #[.string nm, .slice A q.length c, .slice A9 (ri.length + 1) c9] 45 (0, 0))) ∧ Aside0 (k43.R 43 wd w.heap.size (fun _ => True) (.slice A q.length c) (q)) ∧ Aside0 ((Kd.int .i64).R 3 wd w.heap.size (fun _ => True) (.slice A9 (ri.length + 1) c9) ((ri ++ [(k : Int)]))))
          case first =>
            go_region_law
              (first
                | (go_simp; go_at_call 54; refine (pnumber_any w0 _ p t1 HPd k Ak t2 At2).mono ?_; rintro e w2 ⟨rfl, hp2, hb2⟩; have HP2 := hp2; have HB2 := Aside0.mk (HBd.out.trans hb2.out); have HgR2 := Aside0.mk (grown_block hb2.out (show w8.drew.heap[gR]? = _ from HgRw8.out) HNgR.out); have HgX2 := Aside0.mk (grown_block hb2.out (show w8.drew.heap[gX]? = _ from HgXw8.out) HNgX.out); have HF2 := Aside0.mk (row_call HFd.out HPd.out (by decide) hb2.out); have HN2 := Aside0.mk (row_call HNd.out HPd.out (by decide) hb2.out); have k29 : w2.cell? ⟨gX, 2, none⟩ = some (.slice Ar ri.length cr) := blk_cell HgX2.out 2; clear hp2 hb2; have k2A : (w2.alloc (.cells #[.int .i64 (k : Int)] 3)).cell? ⟨gX, 2, none⟩ = some (.slice Ar ri.length cr) := pw_cell_below ((Below.refl w2.heap.size w2).alloc (Nat.le_refl _) _) k29; go_simp)
                | (refine Kd.R_append_step (Kd.int .i64) (w0 := w2) (W := w2) w.heap.size rfl (.tmp 23) (.tmp 26) 35 3 (.int .i64 0) 8 rfl Tryd.underlying35 infoInt rfl (by decide) (by decide) (.slice Ar ri.length cr) (ri) ((k : Int)) [.int .i64 (k : Int)] (fun _ => True) (fun _ => False) rfl rfl rfl (fun _ h => h.elim) (fun _ _ => trivial) HN2.out (Below.refl _ _) HB2.out.size (by omega) ?_; intro v5 w5 hr5 hb5 hg5 hat5; obtain ⟨A9, c9, rfl⟩ := Kd.R_slice hr5; obtain ⟨hp9, hf9⟩ := app_frame HP2.out HB2.out H.out.bel.size HN2.out (by decide) hg5; have HP5 := Aside0.mk hp9; have HB5 := Aside0.mk hf9; have HgR5 := Aside0.mk (blk_grown HgR2.out hg5 (Kd.R_ne HN2.out HgR2.out (by decide))); have HgX5 := Aside0.mk (blk_grown HgX2.out hg5 (Kd.R_ne HN2.out HgX2.out (by decide))); have HF5 := Aside0.mk (row_other HF2.out HN2.out (by decide) hg5); have HN5 := Aside0.mk hr5; have k59 : w5.cell? ⟨gX, 2, none⟩ = some (.slice Ar ri.length cr) := blk_cell HgX5.out 2; have z59 := blk_frozen HgX5.out 2; clear hr5 hb5 hg5 hat5 hp9 hf9; go_simp))
            all_goals
              go_wp2_with fail
              go_meet
              case rel =>
                have hps := HP5.out.far HNgX.out HWgX.out 2 (.slice A9 (ri ++ [(k : Int)]).length c9)
                have hb9 := grown_far HB5.out HLgX.out 2 (.slice A9 (ri ++ [(k : Int)]).length c9)
                have hk9 := blk_set HgX5.out 2 (.slice A9 (ri ++ [(k : Int)]).length c9)
                simp only [List.setIfInBounds_toArray, List.set_cons_zero, List.set_cons_succ] at hk9
                have hkR := blk_far HgR5.out (p := ⟨gX, 2, none⟩) HDgRgX.out (.slice A9 (ri ++ [(k : Int)]).length c9)
                have hr9 := row_far HN5.out HgX5.out (by decide) 2 (.slice A9 (ri ++ [(k : Int)]).length c9)
                have ho9 := row_far HF5.out HgX5.out (by decide) 2 (.slice A9 (ri ++ [(k : Int)]).length c9)
                simp only [List.length_append, List.length_cons, List.length_nil, Nat.zero_add] at hk9 hr9 hps hb9 hkR ho9
                exact ⟨A9, c9, ⟨hps⟩, ⟨hb9⟩, ⟨hkR⟩, ⟨hk9⟩, ⟨ho9⟩, ⟨hr9⟩⟩
          case rest =>
            obtain ⟨w9, hw9⟩ : ∃ x, x = wc := ⟨_, rfl⟩
            subst hw9
            obtain ⟨A9, c9, HPw9, HBw9, HgRw9, HgXw9, HFw9, HNw9⟩ := hcut
            clear kd9 HPd HBd HFd HNd HPw8 HBw8 HgRw8 HgXw8 HFw8 HNw8
            go_wp2_with fail
            go_loopw [] (fun wx => ∃ (r2 : List Nat) (rj : List Int) (s9 : St) (Ax : Option Addr) (cx : Nat), Aside0 (nums_ r2 = rj) ∧ Aside0 (resA r2 s9 = (R2, T2)) ∧ rj.length + mu s9 ≤ 20001 ∧ Aside0 (PS w0 wx p s9) ∧ Aside0 (w.grownBy wx (some p)) ∧ Aside0 (wx.heap[gR]? = some (.cells #[.string ⟨#[]⟩, .slice none 0 0, .slice none 0 0] 45 (0, 0))) ∧ Aside0 (wx.heap[gX]? = some (.cells #[.string nm, .slice A q.length c, .slice Ax rj.length cx] 45 (0, 0))) ∧ Aside0 (k43.R 43 wx w.heap.size (fun _ => True) (.slice A q.length c) (q)) ∧ Aside0 ((Kd.int .i64).R 3 wx w.heap.size (fun _ => True) (.slice Ax rj.length cx) (rj))) (fun wx => muW wx p)
            case atStart => exact ⟨r ++ [k], ri ++ [(k : Int)], t2, A9, c9, ⟨by rw [← HRQ.out]; simp [nums_]⟩, HRES, by simpa using hr8, HPw9, HBw9, HgRw9, ⟨by rw [List.length_append]; exact HgXw9.out⟩, HFw9, ⟨by rw [List.length_append]; exact HNw9.out⟩⟩
            case round =>
              clear HPw9 HBw9 HgRw9 HgXw9 HFw9 HNw9 HRES
              obtain ⟨r2, rj, s9, Ax, cx, HRJ, HRS, hlj, HPwr, HBwr, HgRwr, HgXwr, HFwr, HNwr⟩ := hrel
              have HMX := Aside0.mk HPwr.out.mu
              cases hco : takesB c_comma s9 with
              | true =>
                have HCO := Aside0.mk hco
                have hm1 := mu_takes hco
                have hm2 := mu_num (takesM c_comma s9)
                have HRS2 := HRS.out
                rw [resA_step, if_pos hco] at HRS2
                obtain ⟨u1, hu1⟩ : ∃ x, takesM c_comma s9 = x := ⟨_, rfl⟩
                obtain ⟨u2, hu2⟩ : ∃ x, numM u1 = x := ⟨_, rfl⟩
                obtain ⟨k2, hk2⟩ : ∃ x, numV u1 = x := ⟨_, rfl⟩
                rw [hu1] at hm1 hm2 HRS2
                rw [hu2] at hm2 HRS2
                rw [hk2] at HRS2
                have HU1 : Aside0 ((s9.1.tail, s9.2) = u1) := ⟨by rw [← hu1, takesM, if_pos hco]⟩
                have hr9 : rj.length + 1 + mu u2 ≤ 20001 := by omega
                have HMU : Aside0 (mu u2 < mu s9) := ⟨by omega⟩
                have HRS3 := Aside0.mk HRS2
                have hr7 : rj.length ≤ 20001 := by omega
                have Au2 := Aside0.mk hu2
                have Ak2 := Aside0.mk hk2
                clear hm1 hm2 HRS2 hu1 hu2 hk2 hco HRS
                go_wp2_with fail
                refine (takes_yes w0 wr p s9 HPwr c_comma HCO u1 HU1).mono ?_
                rintro e w10 ⟨rfl, HPw10, hb9⟩
                have HBw10 := Aside0.mk (HBwr.out.trans hb9.out)
                have HgRw10 := Aside0.mk (grown_block hb9.out HgRwr.out HNgR.out)
                have HgXw10 := Aside0.mk (grown_block hb9.out HgXwr.out HNgX.out)
                have HFw10 := Aside0.mk (row_call HFwr.out HPwr.out (by decide) hb9.out)
                have HNw10 := Aside0.mk (row_call HNwr.out HPwr.out (by decide) hb9.out)
                clear hb9 HPwr HBwr HgRwr HgXwr HFwr HNwr
                go_upto_region 7 with fail
                have HPd := Aside0.mk (HPw10.out.below (Below.refl w10.heap.size w10).drew)
                have HBd := Aside0.mk (HBw10.out.trans (below_grownBy (Below.refl w10.heap.size w10).drew (some p)))
                have HFd := Aside0.mk (Kd.R_below HFw10.out (Below.refl w10.heap.size w10).drew)
                have HNd := Aside0.mk (Kd.R_below HNw10.out (Below.refl w10.heap.size w10).drew)
                have kd9 : w10.drew.cell? ⟨gX, 2, none⟩ = some (.slice Ax rj.length cx) := blk_cell HgXw10.out 2
                go_region_law
                  (first
                    | (go_simp; go_at_call 54; refine (pnumber_any w0 _ p u1 HPd k2 Ak2 u2 Au2).mono ?_; rintro e w2 ⟨rfl, hp2, hb2⟩; have HP2 := hp2; have HB2 := Aside0.mk (HBd.out.trans hb2.out); have HgR2 := Aside0.mk (grown_block hb2.out (show w10.drew.heap[gR]? = _ from HgRw10.out) HNgR.out); have HgX2 := Aside0.mk (grown_block hb2.out (show w10.drew.heap[gX]? = _ from HgXw10.out) HNgX.out); have HF2 := Aside0.mk (row_call HFd.out HPd.out (by decide) hb2.out); have HN2 := Aside0.mk (row_call HNd.out HPd.out (by decide) hb2.out); have k29 : w2.cell? ⟨gX, 2, none⟩ = some (.slice Ax rj.length cx) := blk_cell HgX2.out 2; clear hp2 hb2; have k2A : (w2.alloc (.cells #[.int .i64 (k2 : Int)] 3)).cell? ⟨gX, 2, none⟩ = some (.slice Ax rj.length cx) := pw_cell_below ((Below.refl w2.heap.size w2).alloc (Nat.le_refl _) _) k29; go_simp)
                    | (refine Kd.R_append_step (Kd.int .i64) (w0 := w2) (W := w2) w.heap.size rfl (.tmp 32) (.tmp 35) 35 3 (.int .i64 0) 8 rfl Tryd.underlying35 infoInt rfl (by decide) (by decide) (.slice Ax rj.length cx) (rj) ((k2 : Int)) [.int .i64 (k2 : Int)] (fun _ => True) (fun _ => False) rfl rfl rfl (fun _ h => h.elim) (fun _ _ => trivial) HN2.out (Below.refl _ _) HB2.out.size (by omega) ?_; intro v5 w5 hr5 hb5 hg5 hat5; obtain ⟨A9, c9, rfl⟩ := Kd.R_slice hr5; obtain ⟨hp9, hf9⟩ := app_frame HP2.out HB2.out H.out.bel.size HN2.out (by decide) hg5; have HP5 := Aside0.mk hp9; have HB5 := Aside0.mk hf9; have HgR5 := Aside0.mk (blk_grown HgR2.out hg5 (Kd.R_ne HN2.out HgR2.out (by decide))); have HgX5 := Aside0.mk (blk_grown HgX2.out hg5 (Kd.R_ne HN2.out HgX2.out (by decide))); have HF5 := Aside0.mk (row_other HF2.out HN2.out (by decide) hg5); have HN5 := Aside0.mk hr5; have k59 : w5.cell? ⟨gX, 2, none⟩ = some (.slice Ax rj.length cx) := blk_cell HgX5.out 2; have z59 := blk_frozen HgX5.out 2; clear hr5 hb5 hg5 hat5 hp9 hf9; go_simp))
                all_goals
                  go_wp2_with fail
                  have hps := HP5.out.far HNgX.out HWgX.out 2 (.slice A9 (rj ++ [(k2 : Int)]).length c9)
                  have hb9 := grown_far HB5.out HLgX.out 2 (.slice A9 (rj ++ [(k2 : Int)]).length c9)
                  have hk9 := blk_set HgX5.out 2 (.slice A9 (rj ++ [(k2 : Int)]).length c9)
                  simp only [List.setIfInBounds_toArray, List.set_cons_zero, List.set_cons_succ] at hk9
                  have hkR := blk_far HgR5.out (p := ⟨gX, 2, none⟩) HDgRgX.out (.slice A9 (rj ++ [(k2 : Int)]).length c9)
                  have hr9 := row_far HN5.out HgX5.out (by decide) 2 (.slice A9 (rj ++ [(k2 : Int)]).length c9)
                  have ho9 := row_far HF5.out HgX5.out (by decide) 2 (.slice A9 (rj ++ [(k2 : Int)]).length c9)
                  simp only [List.length_append, List.length_cons, List.length_nil, Nat.zero_add] at hk9 hr9 hps hb9 hkR ho9
                  have HP9 := Aside0.mk hps
                  have HB9 := Aside0.mk hb9
                  have HgR9 := Aside0.mk hkR
                  have HgX9 := Aside0.mk hk9
                  have HN9 := Aside0.mk hr9
                  have HF9 := Aside0.mk ho9
                  have HMY := Aside0.mk hps.mu
                  clear hps hb9 hkR hk9 hr9 ho9
                  go_roundw
                  case rel => exact ⟨r2 ++ [k2], rj ++ [(k2 : Int)], u2, A9, c9, ⟨by rw [← HRJ.out]; simp [nums_]⟩, HRS3, by simpa using hr9, HP9, HB9, HgR9, ⟨by rw [List.length_append]; exact HgX9.out⟩, HF9, ⟨by rw [List.length_append]; exact HN9.out⟩⟩
                  case measure => rw [HMY.out, HMX.out]; exact HMU.out
              | false =>
                have HCO := Aside0.mk hco
                have HRS2 := HRS.out
                rw [resA_step, if_neg (by rw [hco]; decide)] at HRS2
                obtain ⟨rfl, rfl⟩ := Prod.mk.inj HRS2
                have hr9 : rj.length + mu t9 ≤ 20001 := by have := HM5.out; omega
                have HR9 := Aside0.mk hr9
                clear HRS2 hco HRS hr9
                go_wp2_with fail
                refine (takes_no w0 wr p s9 HPwr c_comma HCO).mono ?_
                rintro e w' ⟨rfl, rfl⟩
                go_wp2_with fail
                refine (needs_lit w0 wr p s9 HPwr [c_semi] (by decide) t9 ⟨At9.out⟩ _ rfl 1 rfl).mono ?_
                rintro e w11 ⟨rfl, HPw11, hb9⟩
                have HBw11 := Aside0.mk (HBwr.out.trans hb9.out)
                have HgRw11 := Aside0.mk (grown_block hb9.out HgRwr.out HNgR.out)
                have HgXw11 := Aside0.mk (grown_block hb9.out HgXwr.out HNgX.out)
                have HFw11 := Aside0.mk (row_call HFwr.out HPwr.out (by decide) hb9.out)
                have HNw11 := Aside0.mk (row_call HNwr.out HPwr.out (by decide) hb9.out)
                clear hb9 HPwr HBwr HgRwr HgXwr HFwr HNwr
                have HMY := Aside0.mk HPw11.out.mu
                go_wp2_with fail
                go_roundw
                case rel => exact ⟨f, q, r2, rj, t9, A, c, Ax, cx, HFQ, HRJ, HE3, HQ9.out, HR9.out, HPw11, HBw11, HgRw11, HgXw11, HFw11, HNw11⟩
                case measure => rw [HMY.out, HM.out]; exact HM9.out
        | false =>
          have HRE := Aside0.mk hre
          have hm1 := mu_msg_field hb
          have HE2 : Aside0 (msgA (f ++ [fieldV s]) r (fieldM s) = (FF, RR, S6)) := ⟨by rw [← msgA_field f r s hb ht hre]; exact HE.out⟩
          obtain ⟨fd, hfd⟩ : ∃ x, fieldV s = x := ⟨_, rfl⟩
          obtain ⟨t9, ht9⟩ : ∃ x, fieldM s = x := ⟨_, rfl⟩
          rw [hfd, ht9] at HE2
          rw [ht9] at hm1
          have hq9 : q.length + 1 + mu t9 ≤ 20001 := by omega
          have hr9 : ri.length + mu t9 ≤ 20001 := by omega
          have hq7 : q.length ≤ 20001 := by omega
          have HM9 := Aside0.mk hm1
          have HQ9 := Aside0.mk hq9
          have HR9 := Aside0.mk hr9
          have Afd := Aside0.mk hfd
          have At9 := Aside0.mk ht9
          clear hm1 hq9 hr9 hfd ht9 hre ht hb HE
          go_wp2_with fail
          refine (takes_no w0 wo p s HPwo c_close HT).mono ?_
          rintro e w' ⟨rfl, rfl⟩
          clear c1
          go_wp2_with fail
          refine (takes_no w0 wo p s HPwo w_reserved HRE).mono ?_
          rintro e w' ⟨rfl, rfl⟩
          go_upto_region 9 with fail
          have HPd := Aside0.mk (HPwo.out.below (Below.refl wo.heap.size wo).drew)
          have HBd := Aside0.mk (HBwo.out.trans (below_grownBy (Below.refl wo.heap.size wo).drew (some p)))
          have HFd := Aside0.mk (Kd.R_below HFwo.out (Below.refl wo.heap.size wo).drew)
          have HNd := Aside0.mk (Kd.R_below HNwo.out (Below.refl wo.heap.size wo).drew)
          have kd9 : wo.drew.cell? ⟨gX, 1, none⟩ = some (.slice A q.length c) := blk_cell HgXwo.out 1
          go_region_law
            (first
              | (go_simp; go_at_call 55; refine (field_any2 w0 _ p s HPd fd Afd t9 At9).mono ?_; rintro e w2 ⟨rfl, hp2, hb2⟩; have HP2 := hp2; have HB2 := Aside0.mk (HBd.out.trans hb2.out); have HgR2 := Aside0.mk (grown_block hb2.out (show wo.drew.heap[gR]? = _ from HgRwo.out) HNgR.out); have HgX2 := Aside0.mk (grown_block hb2.out (show wo.drew.heap[gX]? = _ from HgXwo.out) HNgX.out); have HF2 := Aside0.mk (row_call HFd.out HPd.out (by decide) hb2.out); have HN2 := Aside0.mk (row_call HNd.out HPd.out (by decide) hb2.out); have k29 : w2.cell? ⟨gX, 1, none⟩ = some (.slice A q.length c) := blk_cell HgX2.out 1; clear hp2 hb2; have k2A : (w2.alloc (.cells #[.string fd.name, .int .i64 (fd.tag : Int), .int .i64 (fd.label : Int), .int .i64 (kk7 fd.kind : Int), .string fd.tname] 43)).cell? ⟨gX, 1, none⟩ = some (.slice A q.length c) := pw_cell_below ((Below.refl w2.heap.size w2).alloc (Nat.le_refl _) _) k29; go_simp)
              | (refine Kd.R_append_step k43 (w0 := w2) (W := w2) w.heap.size rfl (.tmp 42) (.tmp 45) 38 43 (.agg #[.string ⟨#[]⟩, .int .i64 0, .int .i64 0, .int .i64 0, .string ⟨#[]⟩]) 56 rfl Tryd.underlying38 infoField rfl (by decide) (by decide) (.slice A q.length c) (q) (fS fd) [.string fd.name, .int .i64 (fd.tag : Int), .int .i64 (fd.label : Int), .int .i64 (kk7 fd.kind : Int), .string fd.tname] (fun _ => True) (fun _ => False) rfl rfl (k43_mkM _ _ _ (fS fd)) (fun _ h => h.elim) (fun _ _ => trivial) HF2.out (Below.refl _ _) HB2.out.size (by omega) ?_; intro v5 w5 hr5 hb5 hg5 hat5; obtain ⟨A9, c9, rfl⟩ := Kd.R_slice hr5; obtain ⟨hp9, hf9⟩ := app_frame HP2.out HB2.out H.out.bel.size HF2.out (by decide) hg5; have HP5 := Aside0.mk hp9; have HB5 := Aside0.mk hf9; have HgR5 := Aside0.mk (blk_grown HgR2.out hg5 (Kd.R_ne HF2.out HgR2.out (by decide))); have HgX5 := Aside0.mk (blk_grown HgX2.out hg5 (Kd.R_ne HF2.out HgX2.out (by decide))); have HN5 := Aside0.mk (row_other HN2.out HF2.out (by decide) hg5); have HF5 := Aside0.mk hr5; have k59 : w5.cell? ⟨gX, 1, none⟩ = some (.slice A q.length c) := blk_cell HgX5.out 1; have z59 := blk_frozen HgX5.out 1; clear hr5 hb5 hg5 hat5 hp9 hf9; go_simp))
          all_goals
            go_wp2_with fail
            have hps := HP5.out.far HNgX.out HWgX.out 1 (.slice A9 (q ++ [fS fd]).length c9)
            have hb9 := grown_far HB5.out HLgX.out 1 (.slice A9 (q ++ [fS fd]).length c9)
            have hk9 := blk_set HgX5.out 1 (.slice A9 (q ++ [fS fd]).length c9)
            simp only [List.setIfInBounds_toArray, List.set_cons_zero, List.set_cons_succ] at hk9
            have hkR := blk_far HgR5.out (p := ⟨gX, 1, none⟩) HDgRgX.out (.slice A9 (q ++ [fS fd]).length c9)
            have hr9 := row_far HF5.out HgX5.out (by decide) 1 (.slice A9 (q ++ [fS fd]).length c9)
            have ho9 := row_far HN5.out HgX5.out (by decide) 1 (.slice A9 (q ++ [fS fd]).length c9)
            simp only [List.length_append, List.length_cons, List.length_nil, Nat.zero_add] at hk9 hr9 hps hb9 hkR ho9
            have HP9 := Aside0.mk hps
            have HB9 := Aside0.mk hb9
            have HgR9 := Aside0.mk hkR
            have HgX9 := Aside0.mk hk9
            have HF9 := Aside0.mk hr9
            have HN9 := Aside0.mk ho9
            have HMY := Aside0.mk hps.mu
            clear hps hb9 hkR hk9 hr9 ho9
            go_roundw
            case rel => exact ⟨f ++ [fd], q ++ [fS fd], r, ri, t9, A9, c9, Ar, cr, ⟨by rw [← HFQ.out]; simp⟩, HRQ, HE2, by simpa using HQ9.out, HR9.out, HP9, HB9, HgR9, ⟨by rw [List.length_append]; exact HgX9.out⟩, ⟨by rw [List.length_append]; exact HF9.out⟩, HN9⟩
            case measure => rw [HMY.out, HM.out]; exact HM9.out
end Go.Proofs.YtbfhglaaombglaaDoor
end
section
namespace Go.Proofs.YtbfhglaaombglaaDoor
set_option linter.unusedVariables false
set_option linter.unusedSimpArgs false
open Go.RowKit Go.Proofs.YtbfhglaaombglaaDoorW.PrintWords
def StOk (s : St) : Prop := ∀ t ∈ s.1, t.text.size ≤ 16384
theorem StOk.tail {s : St} (h : StOk s) (b : Bool) : StOk (s.1.tail, b) := fun t ht => h t (List.mem_of_mem_tail ht)
theorem StOk.same {s : St} (h : StOk s) (b : Bool) : StOk (s.1, b) := h
theorem StOk.takes {s : St} (h : StOk s) (t : ByteArray) : StOk (takesM t s) := by
  unfold takesM; split
  · exact h.tail _
  · exact h
theorem StOk.need {s : St} (h : StOk s) (t : ByteArray) : StOk (need t s) := by
  unfold Go.Proofs.YtbfhglaaombglaaDoor.need; split
  · exact h.tail _
  · exact h.same _
theorem StOk.name {s : St} (h : StOk s) : StOk (nameM s) := by
  unfold nameM; split
  · exact h.tail _
  · exact h.same _
theorem StOk.num {s : St} (h : StOk s) : StOk (numM s) := by
  unfold numM; split
  · exact h.tail _
  · exact h.same _
theorem StOk.kind {s : St} (h : StOk s) : StOk (kindM s) := by
  unfold kindM; split
  · exact h.name
  · exact h.tail _
theorem StOk.lab {s : St} (h : StOk s) : StOk (labM s) := by
  unfold labM; split
  · exact h.tail _
  · exact h
theorem StOk.field {s : St} (h : StOk s) : StOk (fieldM s) := ((h.lab.kind.name.need _).num).need _
theorem StOk.val {s : St} (h : StOk s) : StOk (valM s) := ((h.name.need _).num).need _
theorem StOk.call {s : St} (h : StOk s) : StOk (callM s) := by
  unfold callM
  exact (((((((h.name.need _).name).need _).need _).need _).name).need _).need _
theorem nameV_ok {s : St} (h : StOk s) : (nameV s).size ≤ 16384 := by
  unfold nameV; split
  · rename_i hn
    obtain ⟨_, h2⟩ := name_some hn
    obtain ⟨l, b⟩ := s
    cases l with
    | nil => exact absurd rfl h2
    | cons k l => exact h k (by simp)
  · decide
theorem scal_le (s : St) : scal s ≤ 5 := by
  unfold scal
  repeat' split
  all_goals omega
def FdOk (f : Fd) : Prop := f.kind ≤ 5 ∧ f.tname.size ≤ 16384
theorem fieldV_ok {s : St} (h : StOk s) : FdOk (fieldV s) := by
  refine ⟨scal_le _, ?_⟩
  show (kindN (labM s)).size ≤ 16384
  unfold kindN; split
  · exact nameV_ok h.lab
  · decide
theorem StOk.res : ∀ k l s, mu s ≤ k → StOk s → StOk (resA l s).2 := by
  intro k
  induction k with
  | zero => intro l s hk h; rw [resA_step, if_neg (fun ht => by have := mu_pos (takes_some ht).1; omega)]; exact h
  | succ k ih =>
    intro l s hk h
    rw [resA_step]
    by_cases ht : takesB c_comma s = true
    · have h2 := mu_takes ht
      have h3 := mu_num (takesM c_comma s)
      rw [if_pos ht]
      exact ih _ _ (by omega) (h.takes _).num
    · rw [if_neg ht]; exact h
theorem msg_ok : ∀ k f r s, mu s ≤ k → StOk s → (∀ x ∈ f, FdOk x) → StOk (msgA f r s).2.2 ∧ ∀ x ∈ (msgA f r s).1, FdOk x := by
  intro k
  induction k with
  | zero => intro f r s hk h hf; rw [msgA_done f r s (by cases hb : s.2 with | true => rfl | false => have := mu_pos hb; omega)]; exact ⟨h, hf⟩
  | succ k ih =>
    intro f r s hk h hf
    by_cases h0 : s.2 = true
    · rw [msgA_done f r s h0]; exact ⟨h, hf⟩
    · have h0' : s.2 = false := by simpa using h0
      by_cases hc : takesB c_close s = true
      · rw [msgA_close f r s hc]; exact ⟨h.takes _, hf⟩
      · by_cases hr : takesB w_reserved s = true
        · rw [msgA_res f r s (by simpa using hc) hr]
          have h2 := mu_msg_res r hr
          exact ih _ _ _ (by omega) ((StOk.res _ _ _ (Nat.le_refl _) (h.takes _).num).need _) hf
        · rw [msgA_field f r s h0' (by simpa using hc) (by simpa using hr)]
          have h2 := mu_msg_field h0'
          refine ih _ _ _ (by omega) h.field (fun x hx => ?_)
          rcases List.mem_append.1 hx with hx | hx
          · exact hf x hx
          · rw [List.mem_singleton.1 hx]; exact fieldV_ok h
theorem mess_ok {s : St} (h : StOk s) : StOk (messM s) ∧ ∀ x ∈ (messV s).fields, FdOk x := by
  have := msg_ok _ [] [] (need c_open (nameM s)) (Nat.le_refl _) (h.name.need _) (fun x hx => by cases hx)
  exact this
theorem enumA_ok : ∀ k l s, mu s ≤ k → StOk s → StOk (enumA l s).2 := by
  intro k
  induction k with
  | zero => intro l s hk h; rw [enumA_done l s (by cases hb : s.2 with | true => rfl | false => have := mu_pos hb; omega)]; exact h
  | succ k ih =>
    intro l s hk h
    by_cases h0 : s.2 = true
    · rw [enumA_done l s h0]; exact h
    · have h0' : s.2 = false := by simpa using h0
      by_cases hc : takesB c_close s = true
      · rw [enumA_close l s hc]; exact h.takes _
      · rw [enumA_val l s h0' (by simpa using hc)]
        have h2 := mu_val s
        have h1 := mu_pos h0'
        exact ih _ _ (by omega) h.val
theorem enum_ok {s : St} (h : StOk s) : StOk (enumM s) ∧ (enumV s).name.size ≤ 16384 := ⟨enumA_ok _ _ _ (Nat.le_refl _) (h.name.need _), nameV_ok h⟩
/-- What is read is small. -/
structure ScOk (x : Sc) : Prop where
  fs : ∀ m ∈ x.msgs, ∀ f ∈ m.fields, FdOk f
  es : ∀ e ∈ x.enums, e.name.size ≤ 16384
theorem decl_ok : ∀ k x s, mu s ≤ k → StOk s → ScOk x → ScOk (declA x s).1 := by
  intro k
  induction k with
  | zero => intro x s hk h hx; rw [declA_done x s (.inl (by cases hb : s.2 with | true => rfl | false => have := mu_pos hb; omega))]; exact hx
  | succ k ih =>
    intro x s hk h hx
    by_cases h0 : s.2 = true
    · rw [declA_done x s (.inl h0)]; exact hx
    · have h0' : s.2 = false := by simpa using h0
      by_cases hn : s.1 = []
      · rw [declA_done x s (.inr hn)]; exact hx
      · by_cases h1 : takesB w_message s = true
        · rw [declA_message x s h0' h1]
          have a1 := mu_takes h1
          have a2 := mu_mess (takesM w_message s)
          obtain ⟨b1, b2⟩ := mess_ok (h.takes w_message)
          refine ih _ _ (by omega) b1 ⟨fun m hm => ?_, hx.es⟩
          rcases List.mem_append.1 hm with hm | hm
          · exact hx.fs m hm
          · rw [List.mem_singleton.1 hm]; exact b2
        · have h1' : takesB w_message s = false := by simpa using h1
          by_cases h2 : takesB w_enum s = true
          · rw [declA_enum x s h0' h1' h2]
            have a1 := mu_takes h2
            have a2 := mu_enum (takesM w_enum s)
            obtain ⟨b1, b2⟩ := enum_ok (h.takes w_enum)
            refine ih _ _ (by omega) b1 ⟨hx.fs, fun e he => ?_⟩
            rcases List.mem_append.1 he with he | he
            · exact hx.es e he
            · rw [List.mem_singleton.1 he]; exact b2
          · have h2' : takesB w_enum s = false := by simpa using h2
            by_cases h3 : takesB w_call s = true
            · rw [declA_call x s h0' h1' h2' h3]
              have a1 := mu_takes h3
              have a2 := mu_call (takesM w_call s)
              exact ih _ _ (by omega) (h.takes w_call).call ⟨hx.fs, hx.es⟩
            · rw [declA_none x s h0' hn h1' h2' (by simpa using h3)]; exact hx
theorem schema_ok {s : St} (h : StOk s) : ScOk (schemaS s).1 := decl_ok _ _ _ (Nat.le_refl _) (((h.need _).name).need _) ⟨(fun m hm => by cases hm), (fun e he => by cases he)⟩
end Go.Proofs.YtbfhglaaombglaaDoor
end
