/- == of packets. -/
import Derived.Test.YtabcaeckoghmpaaDoorPkGet
import Derived.Test.YtabcaeckoghmpaaDoorWEqStruct
namespace Go.Proofs.YtabcaeckoghmpaaDoor
set_option linter.unusedVariables false
set_option linter.unusedSimpArgs false
open Go.RowKit Go.Proofs.YtabcaeckoghmpaaDoorW.PrintWords

/-- == of packets. -/
theorem eq_pk (x y : Pk) (D : Bool) (hD : D = true ↔ x = y) (d : Nat) (w : World) : (Op.equalIn (d + 2) 23 (pkV x) (pkV y)).run Tryd.prog w = .ok D w := by
  have e : D = (x.kind == y.kind && (x.fr == y.fr && (x.to_ == y.to_ && (x.id == y.id && (x.ver == y.ver && (x.meth.toList == y.meth.toList && (x.err == y.err && (x.body.toList == y.body.toList)))))))) := by
    rw [Bool.eq_iff_iff, hD]
    simp only [Bool.and_eq_true, beq_iff_eq]
    constructor
    · rintro rfl
      simp
    · rintro ⟨h1, h2, h3, h4, h5, h6, h7, h8⟩
      obtain ⟨a1, a2, a3, a4, a5, a6, a7, a8⟩ := x
      obtain ⟨b1, b2, b3, b4, b5, b6, b7, b8⟩ := y
      simp only at h1 h2 h3 h4 h5 h6 h7 h8
      rw [h1, h2, h3, h4, h5, toList_inj h6, h7, toList_inj h8]
  rw [e]
  refine eqA_of Tryd.underlying23 (by kernel_rfl) ?_
  refine eqf_cons (by rfl) (by go_simp; rfl) (by go_simp; rfl) (by go_simp) ?_
  refine eqf_cons (by rfl) (by go_simp; rfl) (by go_simp; rfl) (by go_simp) ?_
  refine eqf_cons (by rfl) (by go_simp; rfl) (by go_simp; rfl) (by go_simp) ?_
  refine eqf_cons (by rfl) (by go_simp; rfl) (by go_simp; rfl) (by go_simp) ?_
  refine eqf_cons (by rfl) (by go_simp; rfl) (by go_simp; rfl) (by go_simp) ?_
  refine eqf_cons (by rfl) (by go_simp; rfl) (by go_simp; rfl) (by go_simp) ?_
  refine eqf_cons (by rfl) (by go_simp; rfl) (by go_simp; rfl) (by go_simp) ?_
  exact eqf_last (by rfl) (by go_simp; rfl) (by go_simp; rfl) (by go_simp)
end Go.Proofs.YtabcaeckoghmpaaDoor
