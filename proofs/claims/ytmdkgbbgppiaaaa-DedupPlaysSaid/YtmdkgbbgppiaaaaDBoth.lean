/- The program's cache and the reference's, beside one another. -/
import Derived.Test.YtmdkgbbgppiaaaaDRefAdd
namespace Go.Proofs.Ytmdkgbbgppiaaaa
set_option linter.unusedVariables false
set_option linter.unusedSimpArgs false
open Go.RowKit Go.ChangeMaps Go.Proofs.YtmdkgbbgppiaaaaW.PrintWords

theorem addNew_cF (w : World) (B b size : Nat) (R : List ((Int × Int) × Pk)) (last : Int → Option Int) (C : Aside0 (Cch w B b size R last)) (f i : Int) (hf : In64 f) (hi : In64 i) (p : Pk) (hp : Aside0 (lookS R last f i = (pk0, 1))) (hBw : B ≤ w.heap.size) (hlen : R.length ≤ 100) (hs1 : 1 ≤ size) :
    Calls Try.prog 9 #[.pointer (some ⟨b, 0, none⟩), .int .i64 f, .int .i64 i, pkV p] w fun e w' => e = .returned (.int .i64 0) ∧ Aside0 (Cch w' B b size (addR size R ((f, i), p)) (setF last f i)) ∧ Aside0 (Below B w w') ∧ DedFr w w' := by
  obtain ⟨ov, m1, m2, L1, c1, L2, c2, C', h1, h2⟩ := C.out
  subst h1
  rw [List.length_map] at hlen
  refine (add_newF w B b size ov m1 m2 L1 c1 L2 c2 C' f i hf hi p ⟨by rw [← lookS_of L1 L2 last h2]; exact hp.out⟩ hBw hlen hs1).mono ?_
  rintro e w' ⟨rfl, ⟨⟨ov', c1', L2', c2', C9, hg⟩, hB⟩, hFr⟩
  refine ⟨rfl, ⟨⟨ov', m1, m2, _, c1', L2', c2', C9, ?_, fun f' => ?_⟩⟩, ⟨hB⟩, hFr⟩
  · rw [addR_of]; rfl
  · rw [hg f', setF, h2]
theorem Cch.refFr {w w1 : World} {B b size : Nat} {R : List ((Int × Int) × Pk)} {last : Int → Option Int} (h : Cch w B b size R last) (hr : RefFr w w1) (hm : MapFr w w1) : Cch w1 B b size R last := by
  obtain ⟨ov, m1, m2, L1, c1, L2, c2, C, h1, h2⟩ := h
  refine ⟨ov, m1, m2, L1, c1, L2, c2, ⟨hr _ _ _ _ C.blk (by decide) (by decide), ?_, ?_, ?_, C.hb, C.h1, C.h2, C.ne⟩, h1, h2⟩
  · refine Kd.Q_mono (Kd.Q_step (w1 := w1) (Kd.Q_tight rfl C.row) (fun k hk _ => ?_)) (fun _ _ => trivial)
    obtain ⟨cells, hc⟩ := Kd.Q_typed C.row k hk.symm
    rw [hc]
    exact hr _ _ _ _ hc (by decide) (by decide)
  · exact C.r1.of_heap (by rw [C.r1.blk]; exact hm _ _ _ C.r1.blk)
  · exact C.r2.of_heap (by rw [C.r2.blk]; exact hm _ _ _ C.r2.blk)
theorem RefAt.dedFr {w w1 : World} {B g size : Nat} {vL vM : Value} {R M : List ((Int × Int) × Pk)} (h : RefAt w B g size vL vM R M) (hr : DedFr w w1) : RefAt w1 B g size vL vM R M := by
  refine ⟨hr _ _ _ _ h.blk (by decide) (by decide), ?_, ?_, h.hb, h.ne⟩
  · refine Kd.Q_mono (Kd.Q_step (w1 := w1) (Kd.Q_tight rfl h.rowL) (fun k hk _ => ?_)) (fun _ _ => trivial)
    obtain ⟨cells, hc⟩ := Kd.Q_typed h.rowL k hk.symm
    rw [hc]
    exact hr _ _ _ _ hc (by decide) (by decide)
  · refine Kd.Q_mono (Kd.Q_step (w1 := w1) (Kd.Q_tight rfl h.rowM) (fun k hk _ => ?_)) (fun _ _ => trivial)
    obtain ⟨cells, hc⟩ := Kd.Q_typed h.rowM k hk.symm
    rw [hc]
    exact hr _ _ _ _ hc (by decide) (by decide)
/-- The reference's cache holds these. -/
def RCch (w : World) (B g size m : Nat) (R : List ((Int × Int) × Pk)) (last : Int → Option Int) : Prop :=
  ∃ vL vM M, RefAt w B g size vL vM R M ∧ M.length ≤ m ∧ lastM M = last
theorem RCch.below {w w1 : World} {B g size m : Nat} {R : List ((Int × Int) × Pk)} {last : Int → Option Int} (h : RCch w B g size m R last) (hb : Below w.heap.size w w1) : RCch w1 B g size m R last := by
  obtain ⟨vL, vM, M, C, h1, h2⟩ := h
  exact ⟨vL, vM, M, C.below hb, h1, h2⟩
/-- Both. -/
structure Both (w : World) (B b g s m : Nat) (R : List ((Int × Int) × Pk)) (last : Int → Option Int) : Prop where
  c : Cch w B b s R last
  r : RCch w B g s m R last
  len : R.length ≤ s
theorem Both.below {w w1 : World} {B b g s m : Nat} {R : List ((Int × Int) × Pk)} {last : Int → Option Int} (h : Both w B b g s m R last) (hb : Below w.heap.size w w1) : Both w1 B b g s m R last := ⟨h.c.below hb, h.r.below hb, h.len⟩
theorem Both.more {w : World} {B b g s m : Nat} {R : List ((Int × Int) × Pk)} {last : Int → Option Int} (h : Both w B b g s m R last) : Both w B b g s (m + 1) R last := by
  obtain ⟨vL, vM, M, C, h1, h2⟩ := h.r
  exact ⟨h.c, ⟨vL, vM, M, C, by omega, h2⟩, h.len⟩
/-- The program's Add, the reference's still as it was. -/
structure Half (w : World) (B b g s m : Nat) (R : List ((Int × Int) × Pk)) (last : Int → Option Int) (f i : Int) (p : Pk) : Prop where
  c : Cch w B b s (stR s R last f i p) (stL R last f i)
  r : RCch w B g s m R last
  len : R.length ≤ s
theorem Half.below {w w1 : World} {B b g s m : Nat} {R : List ((Int × Int) × Pk)} {last : Int → Option Int} {f i : Int} {p : Pk} (h : Half w B b g s m R last f i p) (hb : Below w.heap.size w w1) : Half w1 B b g s m R last f i p := ⟨h.c.below hb, h.r.below hb, h.len⟩
def addV (R : List ((Int × Int) × Pk)) (last : Int → Option Int) (f i : Int) : Int := if (lookS R last f i).2 = 1 then 0 else 20
theorem both_add (w : World) (B b g s m : Nat) (R : List ((Int × Int) × Pk)) (last : Int → Option Int) (H : Aside0 (Both w B b g s m R last)) (f i : Int) (hf : In64 f) (hi : In64 i) (p : Pk) (hBw : B ≤ w.heap.size) (hs1 : 1 ≤ s) (hs8 : s ≤ 8) (v : Int) (hv : Aside0 (addV R last f i = v)) :
    Calls Try.prog 9 #[.pointer (some ⟨b, 0, none⟩), .int .i64 f, .int .i64 i, pkV p] w fun e w' => e = .returned (.int .i64 v) ∧ Aside0 (Half w' B b g s m R last f i p) ∧ Aside0 (Below B w w' ∧ DedFr w w') := by
  have hlen := H.out.len
  obtain ⟨vL, vM, M, C, h1, h2⟩ := H.out.r
  by_cases h : (lookS R last f i).2 = 1
  · refine (addNew_cF w B b s R last ⟨H.out.c⟩ f i hf hi p ⟨lookS_one h⟩ hBw (by omega) hs1).mono ?_
    rintro e w' ⟨rfl, h3, h4, h5⟩
    refine ⟨by rw [← hv.out, addV, if_pos h], ⟨?_, ⟨vL, vM, M, C.dedFr h5, h1, h2⟩, hlen⟩, ⟨h4.out, h5⟩⟩
    unfold stR stL
    rw [if_pos h, if_pos h]
    exact h3.out
  · refine (addOld_c w B b s R last ⟨H.out.c⟩ f i hf hi p (lookS R last f i).1 (lookS R last f i).2 ⟨rfl⟩ h).mono ?_
    rintro e w' ⟨rfl, h4⟩
    refine ⟨by rw [← hv.out, addV, if_neg h], ⟨?_, H.out.r.below h4.out, hlen⟩, ⟨h4.out.mono hBw, DedFr.of_below h4.out⟩⟩
    unfold stR stL
    rw [if_neg h, if_neg h]
    exact H.out.c.below h4.out
theorem half_add (w : World) (B b g s m : Nat) (R : List ((Int × Int) × Pk)) (last : Int → Option Int) (f i : Int) (p : Pk) (H : Aside0 (Half w B b g s m R last f i p)) (hBw : B ≤ w.heap.size) (hs1 : 1 ≤ s) (hs8 : s ≤ 8) (hm : m ≤ 99) (v : Int) (hv : Aside0 (addV R last f i = v)) :
    Calls Try.prog 16 #[.pointer (some ⟨g, 0, none⟩), .int .i64 f, .int .i64 i, pkV p] w fun e w' => e = .returned (.int .i64 v) ∧ Aside0 (Both w' B b g s (m + 1) (stR s R last f i p) (stL R last f i)) ∧ Aside0 (Below B w w' ∧ RefFr w w') := by
  have hlen := H.out.len
  obtain ⟨vL, vM, M, C, h1, h2⟩ := H.out.r
  subst h2
  have hc := H.out.c
  by_cases h : (lookS R (lastM M) f i).2 = 1
  · refine (addNew_r w B g s vL vM R M C hBw (by omega) (by omega) hs1 f i p ⟨lookS_one h⟩).mono ?_
    rintro e w' ⟨rfl, h3, h4⟩
    obtain ⟨vL', vM', M', C', h5, h6⟩ := h3.out
    unfold stR stL at hc ⊢
    rw [if_pos h] at hc ⊢
    rw [if_pos h] at hc ⊢
    exact ⟨by rw [← hv.out, addV, if_pos h], ⟨hc.refFr h4.out.2.1 h4.out.2.2, ⟨vL', vM', M', C', by omega, funext h6⟩, addR_len hlen⟩, ⟨h4.out.1, h4.out.2.1⟩⟩
  · refine (addOld_r w B g s vL vM R M C (by omega) (by omega) f i p (lookS R (lastM M) f i).1 (lookS R (lastM M) f i).2 ⟨rfl⟩ h).mono ?_
    rintro e w' ⟨rfl, h4⟩
    unfold stR stL at hc ⊢
    rw [if_neg h] at hc ⊢
    rw [if_neg h] at hc ⊢
    exact ⟨by rw [← hv.out, addV, if_neg h], ⟨hc.below h4, ⟨vL, vM, M, C.below h4, by omega, rfl⟩, hlen⟩, ⟨h4.mono hBw, (ChgR.of_below hBw h4).2.1⟩⟩
theorem both_look (w : World) (B b g s m : Nat) (R : List ((Int × Int) × Pk)) (last : Int → Option Int) (H : Aside0 (Both w B b g s m R last)) (f i : Int) (hf : In64 f) (hi : In64 i) (p : Pk) (k : Nat) (hp : Aside0 (lookS R last f i = (p, k))) :
    Calls Try.prog 10 #[.pointer (some ⟨b, 0, none⟩), .int .i64 f, .int .i64 i] w fun e w' => e = .returned (.tuple #[pkV p, .int .i64 (k : Int)]) ∧ Aside0 (Both w' B b g s m R last) ∧ Aside0 (Below w.heap.size w w') :=
  (look_c w B b s R last ⟨H.out.c⟩ f i hf hi p k hp).mono fun _ _ h => ⟨h.1, ⟨H.out.below h.2.out⟩, h.2⟩
theorem both_rlook (w : World) (B b g s m : Nat) (R : List ((Int × Int) × Pk)) (last : Int → Option Int) (H : Aside0 (Both w B b g s m R last)) (hs8 : s ≤ 8) (hm : m ≤ 100) (f i : Int) (p : Pk) (k : Nat) (hp : Aside0 (lookS R last f i = (p, k))) :
    Calls Try.prog 17 #[.pointer (some ⟨g, 0, none⟩), .int .i64 f, .int .i64 i] w fun e w' => e = .returned (.tuple #[pkV p, .int .i64 (k : Int)]) ∧ Aside0 (Both w' B b g s m R last) ∧ Aside0 (Below w.heap.size w w') := by
  have hlen := H.out.len
  obtain ⟨vL, vM, M, C, h1, h2⟩ := H.out.r
  subst h2
  exact (look_r w B g s vL vM R M C (by omega) (by omega) f i p k hp).mono fun _ _ h => ⟨h.1, ⟨H.out.below h.2⟩, ⟨h.2⟩⟩
theorem both_last (w : World) (B b g s m : Nat) (R : List ((Int × Int) × Pk)) (last : Int → Option Int) (H : Aside0 (Both w B b g s m R last)) (f : Int) (hf : In64 f) (r : Option Int) (hr : Aside0 (last f = r)) :
    Calls Try.prog 14 #[.pointer (some ⟨b, 0, none⟩), .int .i64 f] w fun e w' => e = .returned (.tuple #[.int .i64 (r.getD 0), .bool r.isSome]) ∧ w = w' :=
  last_c w B b s R last ⟨H.out.c⟩ f hf r hr
theorem both_rlast (w : World) (B b g s m : Nat) (R : List ((Int × Int) × Pk)) (last : Int → Option Int) (H : Aside0 (Both w B b g s m R last)) (hm : m ≤ 100) (f : Int) (r : Option Int) (hr : Aside0 (last f = r)) :
    Calls Try.prog 18 #[.pointer (some ⟨g, 0, none⟩), .int .i64 f] w fun e w' => e = .returned (.tuple #[.int .i64 (r.getD 0), .bool r.isSome]) ∧ w = w' := by
  obtain ⟨vL, vM, M, C, h1, h2⟩ := H.out.r
  subst h2
  exact (last_r w B g s vL vM R M C (by omega) f r hr).mono fun _ _ h => ⟨h.1, h.2.symm⟩
theorem both_len (w : World) (B b g s m : Nat) (R : List ((Int × Int) × Pk)) (last : Int → Option Int) (H : Aside0 (Both w B b g s m R last)) (n : Nat) (hn : Aside0 (R.length = n)) :
    Calls Try.prog 13 #[.pointer (some ⟨b, 0, none⟩)] w fun e w' => e = .returned (.int .i64 (n : Int)) ∧ w = w' :=
  len_c w B b s R last ⟨H.out.c⟩ n hn
theorem both_L {w : World} {B b g s m : Nat} {R : List ((Int × Int) × Pk)} {last : Int → Option Int} (H : Both w B b g s m R last) : ∃ A c, w.cell? ⟨g, 1, none⟩ = some (.slice A R.length c) := by
  obtain ⟨vL, vM, M, C, h1, h2⟩ := H.r
  obtain ⟨A, c, hv, _⟩ := Kd.Q_slice C.rowL
  subst hv
  exact ⟨A, c, blk_cell C.blk 1⟩
/-- Packets compared: a packet is itself. -/
theorem eq_pk (p : Pk) (n : Nat) (w : World) : (Op.equalIn (n + 2) 28 (pkV p) (pkV p)).run Try.prog w = .ok true w := by
  have e : true = ((p.kind == p.kind) && ((p.fr == p.fr) && ((p.to_ == p.to_) && ((p.id == p.id) && ((p.ver == p.ver) && ((p.meth.toList == p.meth.toList) && ((p.err == p.err) && (p.body.toList == p.body.toList)))))))) := by simp
  rw [e]
  clear e
  refine eqA_of Try.underlying28 (by kernel_rfl) ?_
  refine eqf_cons (by rfl) (by go_simp; rfl) (by go_simp; rfl) (by go_simp) ?_
  refine eqf_cons (by rfl) (by go_simp; rfl) (by go_simp; rfl) (by go_simp) ?_
  refine eqf_cons (by rfl) (by go_simp; rfl) (by go_simp; rfl) (by go_simp) ?_
  refine eqf_cons (by rfl) (by go_simp; rfl) (by go_simp; rfl) (by go_simp) ?_
  refine eqf_cons (by rfl) (by go_simp; rfl) (by go_simp; rfl) (by go_simp) ?_
  refine eqf_cons (by rfl) (by go_simp; rfl) (by go_simp; rfl) (by go_simp) ?_
  refine eqf_cons (by rfl) (by go_simp; rfl) (by go_simp; rfl) (by go_simp) ?_
  exact eqf_last (by rfl) (by go_simp; rfl) (by go_simp; rfl) (by go_simp)
end Go.Proofs.Ytmdkgbbgppiaaaa
