/- packet.Put of any packet; Get of what is owned; awake. -/
import Derived.Test.YtabcaeckoghmpaaDoorPkGet
namespace Go.Proofs.YtabcaeckoghmpaaDoor
set_option linter.unusedVariables false
set_option linter.unusedSimpArgs false
open Go.RowKit Go.Proofs.YtabcaeckoghmpaaDoorW.PrintWords

theorem put_length_le {p : Pk} (h : pkOk p = true) : 14 ≤ (putB p).length ∧ (putB p).length ≤ 5000 := by
  obtain ⟨h1, h2, h3, h4, h5, h6, h7, h8⟩ := pkOk_in h
  have hm : p.meth.size ≤ 80 := by
    rcases h6 with h6 | h6
    · omega
    · exact nameG_small p.meth h6
  have h9 : 0 < (enc 10 p.meth.size).length := enc_length_pos 9 p.meth.size
  have h10 := enc_length_le 10 p.meth.size
  rw [putB, frameB, List.length_append, List.length_append, List.length_append, List.length_append, bytesOf_length, bytesOf_length, head_length, le4_length]
  omega
theorem pk_sizes {p : Pk} (h : pkOk p = true) : p.meth.size ≤ 80 ∧ p.body.size ≤ 4096 := by
  obtain ⟨h1, h2, h3, h4, h5, h6, h7, h8⟩ := pkOk_in h
  refine ⟨?_, h8⟩
  rcases h6 with h6 | h6
  · omega
  · exact nameG_small p.meth h6
theorem put_bytes {p : Pk} (h : pkOk p = true) : ∀ x ∈ putB p, 0 ≤ x ∧ x ≤ 255 := by
  intro x hx
  rw [putB] at hx
  rcases List.mem_append.1 hx with hx | hx
  · exact le4_bytes _ x hx
  · exact frame_bytes h x hx
/-- packet.Put, of any packet. -/
theorem put_any (p : Pk) (w : World) (hT : Tabs w) (hm : p.meth.size ≤ 4611686018427387904) (hbz : p.body.size ≤ 4611686018427387904) (v : Bool) (hv : Aside0 (pkOk p = v)) (zs : List Int) (hz : Aside0 ((if v then putB p else []) = zs)) :
    Calls Tryd.prog 10 #[pkV p] w
      fun e w' => ∃ v', e = .returned (.tuple #[v', .bool v]) ∧ Aside0 (w'.ownsRow w.heap.size 5 1 v' zs.length (nums .u8 zs)) ∧ Aside0 (Below w.heap.size w w') := by
  cases v with
  | false =>
    have e := hz.out
    simp only [Bool.false_eq_true, if_false] at e
    subst e
    obtain ⟨kind, fr, to_, id, ver, meth, err, body⟩ := p
    refine (put_no kind fr to_ id ver meth err body w hm hbz hT hv).mono ?_
    rintro e w1 ⟨rfl, hB⟩
    exact ⟨_, rfl, ⟨World.ownsRow_nil _ _ _ _⟩, ⟨hB⟩⟩
  | true =>
    have e := hz.out
    simp only [if_true] at e
    obtain ⟨h1, h2, h3, h4, h5, h6, h7, h8⟩ := pkOk_in hv.out
    obtain ⟨kind, fr, to_, id, ver, meth, err, body⟩ := p
    simp only at h1 h2 h3 h4 h5 h6 h7 h8
    obtain ⟨k1, rfl⟩ := Int.eq_ofNat_of_zero_le (show 0 ≤ kind by omega)
    obtain ⟨k2, rfl⟩ := Int.eq_ofNat_of_zero_le (show 0 ≤ fr by omega)
    obtain ⟨k3, rfl⟩ := Int.eq_ofNat_of_zero_le (show 0 ≤ to_ by omega)
    obtain ⟨k4, rfl⟩ := Int.eq_ofNat_of_zero_le (show 0 ≤ id by omega)
    obtain ⟨k5, rfl⟩ := Int.eq_ofNat_of_zero_le (show 0 ≤ ver by omega)
    obtain ⟨k6, rfl⟩ := Int.eq_ofNat_of_zero_le (show 0 ≤ err by omega)
    have hms : meth.size ≤ 80 := by
      rcases h6 with h6 | h6
      · omega
      · exact nameG_small meth h6
    exact put_yes k1 k2 k3 k4 k5 k6 meth body w hT (by omega) (by omega) (by omega) (by omega) (by omega) (by omega) hms h8 hv zs ⟨e⟩
/-- packet.Get, of bytes that are owned. -/
theorem get_own (base : Nat) (v : Value) (zs : List Int) (w : World) (ho : w.ownsRow base 5 1 v zs.length (nums .u8 zs)) (hl : zs.length ≤ 140737488351232) (hw : ∀ x ∈ zs, 0 ≤ x ∧ x ≤ 255) (hT : Tabs w) (p : Pk) (er : Nat) (hp : Aside0 (getB zs = (p, er))) :
    Calls Tryd.prog 12 #[v] w fun e w' => e = .returned (.tuple #[pkV p, .int .i64 (er : Int)]) ∧ Below w.heap.size w w' := by
  obtain ⟨A, c, rfl, hr⟩ := own_reads ho
  exact get_any A zs.length c zs w rfl hr (own_le ho) hl hw hT p er hp
/-- The document's example. -/
def pkE : Pk := ⟨1, 0, 0, 0, 0, ByteArray.empty, 0, ⟨#[1]⟩⟩
set_option maxRecDepth 100000 in
theorem pkE_ok : pkOk pkE = true := by decide +kernel
set_option maxRecDepth 100000 in
theorem pkE_len : (putB pkE).length = 15 := by decide +kernel

set_option maxRecDepth 100000 in
set_option maxHeartbeats 1000000 in
theorem awake_any (w : World) (hT : Tabs w) :
    Calls Tryd.prog 9 #[] w fun e w' => e = .returned (.bool true) ∧ Below w.heap.size w w' := by
  have HT := Aside0.mk hT
  clear hT
  obtain ⟨zs, hzs⟩ : ∃ zs, putB pkE = zs := ⟨_, rfl⟩
  have HZS := Aside0.mk hzs
  have HZL : Aside0 (zs.length = 15) := ⟨by rw [← hzs]; exact pkE_len⟩
  have HZB : Aside0 (∀ x ∈ zs, 0 ≤ x ∧ x ≤ 255) := ⟨by rw [← hzs]; exact put_bytes pkE_ok⟩
  have HZG : Aside0 (getB zs = (pkE, 0)) := ⟨by rw [← hzs]; exact crcF_get pkE_ok⟩
  clear hzs
  go_enter Tryd.func9, Tryd.ntmps9
  go_wp2_with fail
  refine (put_any pkE w HT.out (by decide) (by decide) true ⟨pkE_ok⟩ zs ⟨HZS.out⟩).mono ?_
  rintro e w1 ⟨v1, rfl, HO, HB⟩
  obtain ⟨A, c, rfl, hr⟩ := own_reads HO.out
  have HC := Aside0.mk (own_le HO.out)
  have HR := Aside0.mk hr
  clear hr
  rw [HZL.out] at HR HC ⊢
  go_wp2_with fail
  refine (get_any A 15 c zs w1 HZL.out.symm HR.out HC.out (by rw [HZL.out]; decide) HZB.out (tabs_below HT.out HB.out) pkE 0 HZG).mono ?_
  rintro e w2 ⟨rfl, hB2⟩
  have HB2 := Aside0.mk (HB.out.trans (hB2.mono HB.out.size))
  clear hB2
  unfold pkV pkE
  go_wp2
  go_ret
  exact ⟨rfl, HB2.out.alloc HB2.out.size _⟩
end Go.Proofs.YtabcaeckoghmpaaDoor
