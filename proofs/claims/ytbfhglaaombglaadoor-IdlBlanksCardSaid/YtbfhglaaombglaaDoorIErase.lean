/- Plain laws: a schema turns on its pieces' kinds and texts alone, not on their places. -/
import Derived.Test.YtbfhglaaombglaaDoorIgB
namespace Go.Proofs.YtbfhglaaombglaaDoor
set_option linter.unusedVariables false
set_option linter.unusedSimpArgs false
open Go.RowKit Go.Proofs.YtbfhglaaombglaaDoorW.PrintWords

/-- A piece without its place. -/
def er (t : Tk) : Tk := { t with at_ := 0 }
def erS (st : St) : St := (st.1.map er, st.2)
theorem erS_tail (st : St) : erS (st.1.tail, st.2) = ((erS st).1.tail, (erS st).2) := by
  simp only [erS, List.map_tail]
theorem erS_fail (st : St) : erS (st.1, true) = ((erS st).1, true) := rfl
theorem nxt_er (st : St) : nxt (erS st) = (nxt st).map er := by
  obtain ⟨l, b⟩ := st
  cases b <;> cases l <;> rfl
theorem takesB_er (t : ByteArray) (st : St) : takesB t (erS st) = takesB t st := by
  unfold takesB; rw [nxt_er]; cases nxt st <;> rfl
theorem takesM_er (t : ByteArray) (st : St) : takesM t (erS st) = erS (takesM t st) := by
  unfold takesM; rw [takesB_er]; split
  · exact (erS_tail st).symm
  · rfl
theorem need_er (t : ByteArray) (st : St) : need t (erS st) = erS (need t st) := by
  unfold need; rw [takesB_er]; split
  · exact (erS_tail st).symm
  · rfl
theorem nameOk_er (st : St) : nameOk (erS st) = nameOk st := by
  unfold nameOk; rw [nxt_er]; cases nxt st <;> rfl
theorem hdText_er (st : St) : hdText (erS st) = hdText st := by
  obtain ⟨l, b⟩ := st
  cases l <;> rfl
theorem nameV_er (st : St) : nameV (erS st) = nameV st := by unfold nameV; rw [nameOk_er, hdText_er]
theorem nameM_er (st : St) : nameM (erS st) = erS (nameM st) := by
  unfold nameM; rw [nameOk_er]; split
  · exact (erS_tail st).symm
  · rfl
theorem numOk_er (st : St) : numOk (erS st) = numOk st := by
  unfold numOk; rw [nxt_er]; cases nxt st <;> rfl
theorem numV_er (st : St) : numV (erS st) = numV st := by unfold numV; rw [numOk_er, hdText_er]
theorem numM_er (st : St) : numM (erS st) = erS (numM st) := by
  unfold numM; rw [numOk_er]; split
  · exact (erS_tail st).symm
  · rfl
theorem scal_er (st : St) : scal (erS st) = scal st := by unfold scal; simp only [takesB_er]
theorem kindN_er (st : St) : kindN (erS st) = kindN st := by unfold kindN; rw [scal_er, nameV_er]
theorem kindM_er (st : St) : kindM (erS st) = erS (kindM st) := by
  unfold kindM; rw [scal_er, nameM_er]; split
  · rfl
  · exact (erS_tail st).symm
theorem labV_er (st : St) : labV (erS st) = labV st := by unfold labV; simp only [takesB_er]
theorem labM_er (st : St) : labM (erS st) = erS (labM st) := by
  unfold labM; rw [takesB_er, takesB_er]; split
  · exact (erS_tail st).symm
  · rfl
theorem fieldV_er (st : St) : fieldV (erS st) = fieldV st := by
  unfold fieldV; simp only [labM_er, kindM_er, nameM_er, need_er, nameV_er, numV_er, labV_er, scal_er, kindN_er]
theorem fieldM_er (st : St) : fieldM (erS st) = erS (fieldM st) := by
  unfold fieldM; simp only [labM_er, kindM_er, nameM_er, need_er, numM_er]
theorem mu_er (st : St) : mu (erS st) = mu st := by unfold mu erS; simp only [List.length_map]
theorem resL_er : ∀ k l st, resL k l (erS st) = ((resL k l st).1, erS (resL k l st).2) := by
  intro k
  induction k with
  | zero => intro l st; rfl
  | succ k ih =>
    intro l st
    rw [resL, resL, takesB_er, takesM_er, numV_er, numM_er, ih]
    split <;> rfl
theorem resA_er (l : List Nat) (st : St) : resA l (erS st) = ((resA l st).1, erS (resA l st).2) := by unfold resA; rw [mu_er, resL_er]
theorem msgL_er : ∀ k f r st, msgL k f r (erS st) = ((msgL k f r st).1, (msgL k f r st).2.1, erS (msgL k f r st).2.2) := by
  intro k
  induction k with
  | zero => intro f r st; rfl
  | succ k ih =>
    intro f r st
    rw [msgL, msgL]
    simp only [takesB_er, takesM_er, numV_er, numM_er, resA_er, need_er, fieldV_er, fieldM_er, ih]
    rw [show (erS st).2 = st.2 from rfl]
    split
    · rfl
    · split
      · rfl
      · split <;> rfl
theorem msgA_er (f : List Fd) (r : List Nat) (st : St) : msgA f r (erS st) = ((msgA f r st).1, (msgA f r st).2.1, erS (msgA f r st).2.2) := by unfold msgA; rw [mu_er, msgL_er]
theorem messV_er (st : St) : messV (erS st) = messV st := by unfold messV; simp only [nameM_er, need_er, msgA_er, nameV_er]
theorem messM_er (st : St) : messM (erS st) = erS (messM st) := by unfold messM; simp only [nameM_er, need_er, msgA_er]
theorem valV_er (st : St) : valV (erS st) = valV st := by unfold valV; simp only [nameM_er, need_er, nameV_er, numV_er]
theorem valM_er (st : St) : valM (erS st) = erS (valM st) := by unfold valM; simp only [nameM_er, need_er, numM_er]
theorem enumL_er : ∀ k l st, enumL k l (erS st) = ((enumL k l st).1, erS (enumL k l st).2) := by
  intro k
  induction k with
  | zero => intro l st; rfl
  | succ k ih =>
    intro l st
    rw [enumL, enumL]
    simp only [takesB_er, takesM_er, valV_er, valM_er, ih]
    rw [show (erS st).2 = st.2 from rfl]
    split
    · rfl
    · split <;> rfl
theorem enumA_er (l : List (ByteArray × Nat)) (st : St) : enumA l (erS st) = ((enumA l st).1, erS (enumA l st).2) := by unfold enumA; rw [mu_er, enumL_er]
theorem enumV_er (st : St) : enumV (erS st) = enumV st := by unfold enumV; simp only [nameM_er, need_er, enumA_er, nameV_er]
theorem enumM_er (st : St) : enumM (erS st) = erS (enumM st) := by unfold enumM; simp only [nameM_er, need_er, enumA_er]
theorem callV_er (st : St) : callV (erS st) = callV st := by unfold callV; simp only [nameM_er, need_er, nameV_er]
theorem callM_er (st : St) : callM (erS st) = erS (callM st) := by unfold callM; simp only [nameM_er, need_er]
theorem declL_er : ∀ k x st, declL k x (erS st) = ((declL k x st).1, erS (declL k x st).2) := by
  intro k
  induction k with
  | zero => intro x st; rfl
  | succ k ih =>
    intro x st
    rw [declL, declL]
    simp only [takesB_er, takesM_er, messV_er, messM_er, enumV_er, enumM_er, callV_er, callM_er, ih]
    rw [show (erS st).2 = st.2 from rfl, show (erS st).1.isEmpty = st.1.isEmpty from by unfold erS; simp only [List.isEmpty_map]]
    split
    · rfl
    · split
      · rfl
      · split
        · rfl
        · split
          · rfl
          · split <;> rfl
theorem declA_er (x : Sc) (st : St) : declA x (erS st) = ((declA x st).1, erS (declA x st).2) := by unfold declA; rw [mu_er, declL_er]
theorem schemaS_er (st : St) : schemaS (erS st) = ((schemaS st).1, erS (schemaS st).2) := by unfold schemaS; simp only [nameM_er, need_er, nameV_er, declA_er]
/-- Pieces that are alike but for their places make the same schema. -/
theorem parseT_er (l l' : List Tk) (n n' : Nat) (h : l'.map er = l.map er) (x : Sc) (a : Nat) (hp : parseT l n = (x, a, 0)) : parseT l' n' = (x, 0, 0) := by
  have e1 := schemaS_er (l, false)
  have e2 := schemaS_er (l', false)
  have e3 : erS (l', false) = erS (l, false) := by unfold erS; simp only [h]
  rw [e3, e1] at e2
  obtain ⟨h1, h2⟩ := Prod.mk.inj e2
  have h3 : (schemaS (l, false)).2.2 = (schemaS (l', false)).2.2 := by
    have h9 := congrArg Prod.snd h2
    exact h9
  rw [parseT] at hp ⊢
  rw [← h3, ← h1]
  by_cases hf : (schemaS (l, false)).2.2 = true
  · rw [if_pos hf] at hp
    have := (Prod.mk.inj (Prod.mk.inj hp).2).2
    cases this
  · rw [if_neg hf] at hp ⊢
    rw [← (Prod.mk.inj hp).1]
end Go.Proofs.YtbfhglaaombglaaDoor
