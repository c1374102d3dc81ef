/- Plain laws: where a text that is no schema fails; a schema has a name. -/
import Derived.Test.YtbfhglaaombglaaDoorIgE
namespace Go.Proofs.YtbfhglaaombglaaDoor
set_option linter.unusedVariables false
set_option linter.unusedSimpArgs false
open Go.RowKit Go.Proofs.YtbfhglaaombglaaDoorW.PrintWords

/-- Each piece that is left has the property. -/
def StP (P : Tk → Prop) (s : St) : Prop := ∀ t ∈ s.1, P t
section
variable {P : Tk → Prop}
theorem StP.tail {s : St} (h : StP P s) (b : Bool) : StP P (s.1.tail, b) := fun t ht => h t (List.mem_of_mem_tail ht)
theorem StP.same {s : St} (h : StP P s) (b : Bool) : StP P (s.1, b) := h
theorem StP.takes {s : St} (h : StP P s) (t : ByteArray) : StP P (takesM t s) := by
  unfold takesM; split
  · exact h.tail _
  · exact h
theorem StP.need {s : St} (h : StP P s) (t : ByteArray) : StP P (need t s) := by
  unfold Go.Proofs.YtbfhglaaombglaaDoor.need; split
  · exact h.tail _
  · exact h.same _
theorem StP.name {s : St} (h : StP P s) : StP P (nameM s) := by
  unfold nameM; split
  · exact h.tail _
  · exact h.same _
theorem StP.num {s : St} (h : StP P s) : StP P (numM s) := by
  unfold numM; split
  · exact h.tail _
  · exact h.same _
theorem StP.kind {s : St} (h : StP P s) : StP P (kindM s) := by
  unfold kindM; split
  · exact h.name
  · exact h.tail _
theorem StP.lab {s : St} (h : StP P s) : StP P (labM s) := by
  unfold labM; split
  · exact h.tail _
  · exact h
theorem StP.field {s : St} (h : StP P s) : StP P (fieldM s) := ((h.lab.kind.name.need _).num).need _
theorem StP.val {s : St} (h : StP P s) : StP P (valM s) := ((h.name.need _).num).need _
theorem StP.call {s : St} (h : StP P s) : StP P (callM s) := by
  unfold callM
  exact (((((((h.name.need _).name).need _).need _).need _).name).need _).need _
theorem StP.res : ∀ k l s, mu s ≤ k → StP P s → StP P (resA l s).2 := by
  intro k
  induction k with
  | zero => intro l s hk h; rw [resA_step, if_neg (fun ht => by have := mu_pos (takes_some ht).1; omega)]; exact h
  | succ k ih =>
    intro l s hk h
    rw [resA_step]
    by_cases ht : takesB c_comma s = true
    · have h2 := mu_takes ht
      have h3 := mu_num (takesM c_comma s)
      rw [if_pos ht]
      exact ih _ _ (by omega) (h.takes _).num
    · rw [if_neg ht]; exact h
theorem stp_msg : ∀ k f r s, mu s ≤ k → StP P s → StP P (msgA f r s).2.2 := by
  intro k
  induction k with
  | zero => intro f r s hk h; rw [msgA_done f r s (by cases hb : s.2 with | true => rfl | false => have := mu_pos hb; omega)]; exact h
  | succ k ih =>
    intro f r s hk h
    by_cases h0 : s.2 = true
    · rw [msgA_done f r s h0]; exact h
    · have h0' : s.2 = false := by simpa using h0
      by_cases hc : takesB c_close s = true
      · rw [msgA_close f r s hc]; exact h.takes _
      · by_cases hr : takesB w_reserved s = true
        · rw [msgA_res f r s (by simpa using hc) hr]
          have h2 := mu_msg_res r hr
          exact ih _ _ _ (by omega) ((StP.res _ _ _ (Nat.le_refl _) (h.takes _).num).need _)
        · rw [msgA_field f r s h0' (by simpa using hc) (by simpa using hr)]
          have h2 := mu_msg_field h0'
          exact ih _ _ _ (by omega) h.field
theorem stp_mess {s : St} (h : StP P s) : StP P (messM s) := stp_msg _ [] [] (need c_open (nameM s)) (Nat.le_refl _) (h.name.need _)
theorem stp_enumA : ∀ k l s, mu s ≤ k → StP P s → StP P (enumA l s).2 := by
  intro k
  induction k with
  | zero => intro l s hk h; rw [enumA_done l s (by cases hb : s.2 with | true => rfl | false => have := mu_pos hb; omega)]; exact h
  | succ k ih =>
    intro l s hk h
    by_cases h0 : s.2 = true
    · rw [enumA_done l s h0]; exact h
    · have h0' : s.2 = false := by simpa using h0
      by_cases hc : takesB c_close s = true
      · rw [enumA_close l s hc]; exact h.takes _
      · rw [enumA_val l s h0' (by simpa using hc)]
        have h2 := mu_val s
        have h1 := mu_pos h0'
        exact ih _ _ (by omega) h.val
theorem stp_enum {s : St} (h : StP P s) : StP P (enumM s) := stp_enumA _ _ _ (Nat.le_refl _) (h.name.need _)
/-- What is left is of the pieces; the name stays. -/
theorem stp_decl : ∀ k x s, mu s ≤ k → StP P s → StP P (declA x s).2 ∧ (declA x s).1.name = x.name := by
  intro k
  induction k with
  | zero => intro x s hk h; rw [declA_done x s (.inl (by cases hb : s.2 with | true => rfl | false => have := mu_pos hb; omega))]; exact ⟨h, rfl⟩
  | succ k ih =>
    intro x s hk h
    by_cases h0 : s.2 = true
    · rw [declA_done x s (.inl h0)]; exact ⟨h, rfl⟩
    · have h0' : s.2 = false := by simpa using h0
      by_cases hn : s.1 = []
      · rw [declA_done x s (.inr hn)]; exact ⟨h, rfl⟩
      · by_cases h1 : takesB w_message s = true
        · rw [declA_message x s h0' h1]
          have a1 := mu_takes h1
          have a2 := mu_mess (takesM w_message s)
          exact ih _ _ (by omega) (stp_mess (h.takes _))
        · have h1' : takesB w_message s = false := by simpa using h1
          by_cases h2 : takesB w_enum s = true
          · rw [declA_enum x s h0' h1' h2]
            have a1 := mu_takes h2
            have a2 := mu_enum (takesM w_enum s)
            exact ih _ _ (by omega) (stp_enum (h.takes _))
          · have h2' : takesB w_enum s = false := by simpa using h2
            by_cases h3 : takesB w_call s = true
            · rw [declA_call x s h0' h1' h2' h3]
              have a1 := mu_takes h3
              have a2 := mu_call (takesM w_call s)
              exact ih _ _ (by omega) (h.takes _).call
            · rw [declA_none x s h0' hn h1' h2' (by simpa using h3)]
              exact ⟨h, rfl⟩
end
theorem steps_last {p q : Nat} {u v : List Nat} {l : List (Nat × Nat × Nat)} (h : Steps p u l q v) : ∀ t ∈ l, p ≤ t.2.1 ∧ t.2.1 < q := by
  induction h with
  | nil p u => intro t ht; cases ht
  | @blank p u n l q v hu h r ih =>
    intro t ht
    have := ih t ht
    omega
  | @tok p u k n l q v hu h r ih =>
    intro t ht
    have hb := step_bound _ hu _ _ h
    obtain ⟨j, _, hq, _⟩ := r.len
    rcases List.mem_cons.1 ht with rfl | ht
    · simp only; omega
    · have := ih t ht
      omega
theorem need_live {t : ByteArray} {s : St} (h : (need t s).2 = false) : takesB t s = true := by
  unfold need at h
  split at h
  · assumption
  · cases h
theorem name_live {s : St} (h : (nameM s).2 = false) : nameOk s = true := by
  unfold nameM at h
  split at h
  · assumption
  · cases h
theorem name_not_empty {s : St} (h : nameOk s = true) : nameV s ≠ ⟨#[]⟩ := by
  intro he
  rw [nameV, if_pos h] at he
  unfold nameOk at h
  cases hn : nxt s with
  | none => rw [hn] at h; cases h
  | some k =>
    rw [hn] at h
    obtain ⟨_, l, hl⟩ := nxt_some hn
    rw [hdText, hl] at he
    simp only at he h
    rw [he] at h
    have h9 : nameG ⟨#[]⟩ = false := by decide +kernel
    rw [h9] at h
    simp at h
theorem cut_parse (s : ByteArray) (hs : s.size ≤ 16384) (x : Sc) (at_ er : Nat) (h : parseF s = (x, at_, er)) :
    (er = 0 ∧ at_ = 0 ∧ x.name ≠ ⟨#[]⟩) ∨ ((er = 5 ∨ er = 9) ∧ at_ ≤ s.size ∧ x = Sc.nil) := by
  rw [parseF, if_neg (by omega)] at h
  obtain ⟨L, E, hLE⟩ : ∃ L E, toksA 0 (bs s) = (L, E) := ⟨_, _, rfl⟩
  rw [hLE] at h
  cases E with
  | some ae =>
    obtain ⟨a, e⟩ := ae
    simp only at h
    obtain ⟨rfl, h3⟩ := Prod.mk.inj h
    obtain ⟨rfl, rfl⟩ := Prod.mk.inj h3
    obtain ⟨v, h1, _, hv⟩ := (toks_steps _ 0 (bs s) (Nat.le_refl _)).2 L a e hLE
    have h9 := step_err v e hv
    obtain ⟨j, _, h5, h6⟩ := h1.len
    rw [bs_length] at h6
    exact .inr ⟨by omega, by omega, rfl⟩
  | none =>
    simp only at h
    have hst := (toks_steps _ 0 (bs s) (Nat.le_refl _)).1 L hLE
    have hP : StP (fun t => t.at_ ≤ s.size) (L.map (tkOf s), false) := by
      intro t ht
      obtain ⟨q, hq, rfl⟩ := List.mem_map.1 ht
      have h9 := steps_last hst q hq
      rw [bs_length] at h9
      show q.2.1 ≤ s.size
      omega
    rw [parseT] at h
    have h8 := stp_decl (P := fun t => t.at_ ≤ s.size) _ ⟨nameV (need w_schema (L.map (tkOf s), false)), [], [], []⟩ (need c_semi (nameM (need w_schema (L.map (tkOf s), false)))) (Nat.le_refl _) ((hP.need _).name.need _)
    obtain ⟨q, hq⟩ : ∃ q, schemaS (L.map (tkOf s), false) = q := ⟨_, rfl⟩
    have hq2 := hq
    rw [schemaS] at hq2
    rw [hq2] at h8
    rw [hq] at h
    obtain ⟨h81, h82⟩ := h8
    by_cases hf : q.2.2 = true
    · rw [if_pos hf] at h
      obtain ⟨rfl, h3⟩ := Prod.mk.inj h
      obtain ⟨h4, rfl⟩ := Prod.mk.inj h3
      refine .inr ⟨.inl rfl, ?_, rfl⟩
      rw [← h4]
      cases hl : q.2.1 with
      | nil => exact Nat.le_refl _
      | cons k l => exact h81 k (by rw [hl]; exact List.mem_cons_self)
    · rw [if_neg hf] at h
      obtain ⟨rfl, h3⟩ := Prod.mk.inj h
      obtain ⟨rfl, rfl⟩ := Prod.mk.inj h3
      refine .inl ⟨rfl, rfl, ?_⟩
      show q.1.name ≠ _
      rw [h82]
      have hlive : (need c_semi (nameM (need w_schema (L.map (tkOf s), false)))).2 = false := by
        cases hb : (need c_semi (nameM (need w_schema (L.map (tkOf s), false)))).2 with
        | false => rfl
        | true =>
          rw [declA_done _ _ (.inl hb)] at hq2
          rw [← hq2] at hf
          exact absurd hb hf
      exact name_not_empty (name_live (takes_some (need_live hlive)).1)
end Go.Proofs.YtbfhglaaombglaaDoor
