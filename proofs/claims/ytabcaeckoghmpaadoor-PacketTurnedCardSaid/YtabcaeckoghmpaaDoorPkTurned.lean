/- The law PacketTurned's walk. -/
import Derived.Test.YtabcaeckoghmpaaDoorPkOpen
import Derived.Test.YtabcaeckoghmpaaDoorCTurnsPure
import Derived.Test.YtabcaeckoghmpaaDoorPlace
namespace Go.Proofs.YtabcaeckoghmpaaDoor
set_option linter.unusedVariables false
set_option linter.unusedSimpArgs false
open Go.RowKit Go.Proofs.YtabcaeckoghmpaaDoorW.PrintWords

theorem xor_byte (a b : Nat) (ha : a < 256) (hb : b < 256) : Go.bits .xor .u8 (a : Int) (b : Int) = ((a ^^^ b : Nat) : Int) := by
  have h := Nat.xor_lt_two_pow (n := 8) (x := a) (y := b) (by omega) (by omega)
  show IntKind.u8.wrap ((BitVec.ofInt 8 (a : Int) ^^^ BitVec.ofInt 8 (b : Int)).toNat : Int) = _
  rw [BitVec.ofInt_natCast, BitVec.ofInt_natCast, BitVec.toNat_xor, BitVec.toNat_ofNat, BitVec.toNat_ofNat, Nat.mod_eq_of_lt (by omega), Nat.mod_eq_of_lt (by omega), IntKind.wrap_u8]
  omega
theorem xor_ne (a b : Nat) (h : b ≠ 0) : a ^^^ b ≠ a := by
  intro h1
  refine h ?_
  have : a ^^^ (a ^^^ b) = a ^^^ a := by rw [h1]
  rw [← Nat.xor_assoc, Nat.xor_self, Nat.zero_xor] at this
  exact this
theorem crc_byte (p q : List Int) (x y : Nat) (hp : ∀ z ∈ p, 0 ≤ z ∧ z ≤ 255) (hq : ∀ z ∈ q, 0 ≤ z ∧ z ≤ 255) (hx : x < 256) (hy : y < 256) (h : crcF 0 (p ++ ((x : Int) :: q)) = crcF 0 (p ++ ((y : Int) :: q))) : x = y := by
  have hs := reg_lt p hp (inv32 0) (inv32_lt 0)
  unfold crcF at h
  rw [reg_append, reg_append] at h
  generalize reg (inv32 0) p = s at h hs
  simp only [reg_cons] at h
  have hA := steps_lt 8 _ (xlt hs (show x < 4294967296 by omega))
  have hB := steps_lt 8 _ (xlt hs (show y < 4294967296 by omega))
  have h' := reg_inj q hq _ _ hA hB (inv32_inj (reg_lt q hq _ hA) (reg_lt q hq _ hB) h)
  have h2 := steps_inj 8 _ _ (xlt hs (by omega)) (xlt hs (by omega)) h'
  have h3 : s ^^^ (s ^^^ x) = s ^^^ (s ^^^ y) := by rw [h2]
  rwa [← Nat.xor_assoc, ← Nat.xor_assoc, Nat.xor_self, Nat.zero_xor, Nat.zero_xor] at h3
theorem split_at_ (l : List Int) (k : Nat) (h : k < l.length) (y : Int) : l.set k y = l.take k ++ y :: l.drop (k + 1) ∧ l = l.take k ++ l.getD k 0 :: l.drop (k + 1) := by
  constructor
  · rw [List.set_eq_take_append_cons_drop, if_pos h]
  · have e : l.getD k 0 = l[k] := by rw [List.getD_eq_getElem?_getD, List.getElem?_eq_getElem h, Option.getD_some]
    rw [e, List.getElem_cons_drop, List.take_append_drop]
/-- A byte that is turned: no packet. -/
theorem turn_getB {p : Pk} (h : pkOk p = true) (k x y : Nat) (hk : k < (putB p).length) (hx : (putB p).getD k 0 = (x : Int)) (hx2 : x < 256) (hy : y < 256) (hne : y ≠ x) : getB ((putB p).set k (y : Int)) = (pk0, 16) := by
  have hl := put_length_le h
  have hfb := frame_bytes h
  rw [putB] at hk hx hl ⊢
  obtain ⟨c, hc⟩ : ∃ c, crcF 0 (frameB p) = c := ⟨_, rfl⟩
  obtain ⟨f, hf⟩ : ∃ f, frameB p = f := ⟨_, rfl⟩
  rw [hf] at hc hk hx hl hfb ⊢
  rw [hc] at hk hx hl ⊢
  have h4 : (le4 c).length = 4 := rfl
  rw [getB, if_neg (by rw [List.length_set]; omega)]
  by_cases k4 : k < 4
  · rw [List.drop_set_of_lt k4, List.drop_left' h4, List.take_set, List.take_left' h4, hc, if_pos]
    intro e
    have e2 : (le4 c).getD k 0 = ((le4 c).set k (y : Int)).getD k 0 := congrArg (fun l => l.getD k 0) e
    rw [List.getD_eq_getElem?_getD, List.getElem?_append_left (by omega), ← List.getD_eq_getElem?_getD] at hx
    rw [hx] at e2
    rw [List.getD_eq_getElem?_getD, List.getElem?_set_self (by omega), Option.getD_some] at e2
    omega
  · have hd : ((le4 c ++ f).set k (y : Int)).drop 4 = f.set (k - 4) (y : Int) := by
      rw [List.drop_set, if_neg k4, List.drop_left' h4]
    rw [hd, List.take_set_of_le (by omega), List.take_left' h4, if_pos]
    intro e
    rw [List.length_append, h4] at hk
    rw [List.getD_eq_getElem?_getD, List.getElem?_append_right (by omega), ← List.getD_eq_getElem?_getD, h4] at hx
    obtain ⟨s1, s2⟩ := split_at_ f (k - 4) (by omega) (y : Int)
    rw [hx] at s2
    have hpb : ∀ z ∈ f.take (k - 4), 0 ≤ z ∧ z ≤ 255 := fun z hz => hfb z (List.mem_of_mem_take hz)
    have hqb : ∀ z ∈ f.drop (k - 4 + 1), 0 ≤ z ∧ z ≤ 255 := fun z hz => hfb z (List.mem_of_mem_drop hz)
    have e3 := le4_inj (crcF_lt _ _) (by rw [← hc]; exact crcF_lt _ _) e
    rw [s1, ← hc] at e3
    have e4 : crcF 0 f = crcF 0 (f.take (k - 4) ++ (x : Int) :: f.drop (k - 4 + 1)) := congrArg (crcF 0) s2
    rw [e4] at e3
    exact hne (crc_byte _ _ y x hpb hqb hy hx2 e3)

set_option maxRecDepth 100000 in
set_option maxHeartbeats 2000000 in
theorem packetturned_walk (p : Pk) (a1 a2 : Int) (w : World) (hp : PkIn p) (ha1 : -9223372036854775808 ≤ a1 ∧ a1 ≤ 9223372036854775807) (ha2 : 0 ≤ a2 ∧ a2 ≤ 255) (hT : Tabs w) :
    Calls Tryd.prog 5 #[pkV p, .int .i64 a1, .int .u8 a2] w fun e w' => e = .returned (.bool true) ∧ Below w.heap.size w w' := by
  obtain ⟨kind, fr, to_, id, ver, meth, err, body⟩ := p
  have HT := Aside0.mk hT
  have hms := hp.meth
  have hbs := hp.body
  simp only at hms hbs
  clear hp hT
  have HBK := Aside0.mk (heap_alloc_new w (.cells #[.int .i64 kind, .int .i64 fr, .int .i64 to_, .int .i64 id, .int .i64 ver, .string meth, .int .i64 err, .string body] 23))
  have HB0 : Aside0 (Below w.heap.size w (w.alloc (.cells #[.int .i64 kind, .int .i64 fr, .int .i64 to_, .int .i64 id, .int .i64 ver, .string meth, .int .i64 err, .string body] 23))) := ⟨(Below.refl _ _).alloc (Nat.le_refl _) _⟩
  unfold pkV
  by_cases h1 : 5000 < body.size
  · go_enter Tryd.func5, Tryd.ntmps5
    go_wp2_with fail
    refine (awake_any _ (tabs_below HT.out HB0.out)).mono ?_
    rintro e w6 ⟨rfl, hB6⟩
    have HB6 := Aside0.mk (HB0.out.trans (hB6.mono HB0.out.size))
    clear hB6
    go_wp2
    go_ret
    exact ⟨rfl, HB6.out⟩
  · by_cases h2 : 300 < meth.size
    · go_enter Tryd.func5, Tryd.ntmps5
      go_wp2_with fail
      refine (awake_any _ (tabs_below HT.out HB0.out)).mono ?_
      rintro e w6 ⟨rfl, hB6⟩
      have HB6 := Aside0.mk (HB0.out.trans (hB6.mono HB0.out.size))
      clear hB6
      go_wp2
      go_ret
      exact ⟨rfl, HB6.out⟩
    · by_cases h3 : a2 = 0
      · subst h3
        go_enter Tryd.func5, Tryd.ntmps5
        go_wp2_with fail
        refine (awake_any _ (tabs_below HT.out HB0.out)).mono ?_
        rintro e w6 ⟨rfl, hB6⟩
        have HB6 := Aside0.mk (HB0.out.trans (hB6.mono HB0.out.size))
        clear hB6
        go_wp2
        go_ret
        exact ⟨rfl, HB6.out⟩
      · have h3b : (a2 == 0) = false := beq_eq_false_iff_ne.2 h3
        obtain ⟨by_, rfl⟩ := Int.eq_ofNat_of_zero_le ha2.1
        have HBY := Aside0.mk (show by_ ≠ 0 ∧ by_ < 256 by omega)
        clear h3 ha2
        obtain ⟨v, hv⟩ : ∃ v, pkOk ⟨kind, fr, to_, id, ver, meth, err, body⟩ = v := ⟨_, rfl⟩
        obtain ⟨zs, hz⟩ : ∃ zs, (if v then putB ⟨kind, fr, to_, id, ver, meth, err, body⟩ else []) = zs := ⟨_, rfl⟩
        have HV := Aside0.mk hv
        have HZ := Aside0.mk hz
        clear hv hz
        go_enter Tryd.func5, Tryd.ntmps5
        go_wp2_with fail
        refine (put_any ⟨kind, fr, to_, id, ver, meth, err, body⟩ _ (tabs_below HT.out HB0.out) (show meth.size ≤ 4611686018427387904 by omega) (show body.size ≤ 4611686018427387904 by omega) v HV zs HZ).mono ?_
        rintro e w1 ⟨v1, rfl, ho, hB1⟩
        have HB1 := Aside0.mk (HB0.out.trans (hB1.out.mono HB0.out.size))
        cases v with
        | false =>
          go_wp2_with fail
          refine (awake_any _ (tabs_below HT.out HB1.out)).mono ?_
          rintro e w6 ⟨rfl, hB6⟩
          have HB6 := Aside0.mk (HB1.out.trans (hB6.mono HB1.out.size))
          clear hB6
          go_wp2
          go_ret
          exact ⟨rfl, HB6.out⟩
        | true =>
          have hput : putB ⟨kind, fr, to_, id, ver, meth, err, body⟩ = zs := by rw [← HZ.out]; rfl
          have hlen := put_length_le HV.out
          rw [hput] at hlen
          have HZW : Aside0 (∀ x ∈ zs, 0 ≤ x ∧ x ≤ 255) := ⟨hput ▸ put_bytes HV.out⟩
          have HPUT := Aside0.mk hput
          clear hput
          obtain ⟨g, cap, rfl, hgb, hgl⟩ := ho.out.form (by omega)
          go_wp2_with fail
          refine (place_new a1 _ _ (by omega) (by omega)).mono ?_
          rintro e w5 ⟨k, rfl, hk, rfl⟩
          obtain ⟨hca, hfa⟩ := own_at ho.out (k : Int) (by omega) (by omega)
          have hb := rd_byte zs HZW.out k
          obtain ⟨x, hx⟩ : ∃ x : Nat, rd zs (k : Int) = (x : Int) := ⟨_, (Int.toNat_of_nonneg hb.1).symm⟩
          rw [hx] at hca hb
          rw [Int.toNat_natCast] at hca hfa
          have HX := Aside0.mk hx
          have hst := own_store ho.out (k : Int) (Go.bits .xor .u8 (x : Int) (by_ : Int))
          rw [Int.toNat_natCast] at hst
          have HST := Aside0.mk hst.1
          have hb1 := hb.2
          clear hst hx hb
          go_wp2_with fail
          have hxb : x < 256 := by omega
          have hbits := xor_byte x by_ hxb HBY.out.2
          have HG : Aside0 (getB (zs.set k (Go.bits .xor .u8 (x : Int) (by_ : Int))) = (pk0, 16)) := ⟨by
            have hxl : x ^^^ by_ < 256 := Nat.xor_lt_two_pow (n := 8) hxb HBY.out.2
            rw [hbits, ← HPUT.out]
            exact turn_getB HV.out k x (x ^^^ by_) (by rw [HPUT.out]; omega) (by rw [HPUT.out]; exact HX.out) hxb hxl (xor_ne x by_ HBY.out.1)⟩
          have HBX : Aside0 (∀ z ∈ zs.set k (Go.bits .xor .u8 (x : Int) (by_ : Int)), 0 ≤ z ∧ z ≤ 255) := ⟨by
            intro z hz
            have hxl : x ^^^ by_ < 256 := Nat.xor_lt_two_pow (n := 8) hxb HBY.out.2
            rcases List.mem_or_eq_of_mem_set hz with hz | hz
            · exact HZW.out z hz
            · rw [hz, hbits]; omega⟩
          have HRX := Aside0.mk (own_reads' HST.out)
          have HBS := Aside0.mk (HB1.out.setCell (p := ⟨g, k, none⟩) (Nat.le_trans HB0.out.size hgb) (.int .u8 (Go.bits .xor .u8 (x : Int) (by_ : Int))))
          clear hbits
          refine (get_any (some ⟨g, 0, none⟩) zs.length cap (zs.set k (Go.bits .xor .u8 (x : Int) (by_ : Int))) _ (List.length_set).symm HRX.out (own_le HST.out) (by rw [List.length_set]; omega) HBX.out (tabs_below HT.out HBS.out) pk0 16 HG).mono ?_
          rintro e w2 ⟨rfl, hB2⟩
          have HB2 := Aside0.mk (HBS.out.trans (hB2.mono HBS.out.size))
          clear hB2 hca hfa
          unfold pkV pk0
          have HB3 := Aside0.mk (HB2.out.alloc HB2.out.size (.cells #[.int .i64 0, .int .i64 0, .int .i64 0, .int .i64 0, .int .i64 0, .string ByteArray.empty, .int .i64 0, .string ByteArray.empty] 23))
          go_wp2_with fail
          refine (awake_any _ (tabs_below HT.out HB3.out)).mono ?_
          rintro e w6 ⟨rfl, hB6⟩
          have HB6 := Aside0.mk (HB3.out.trans (hB6.mono HB3.out.size))
          clear hB6
          go_wp2
          go_ret
          exact ⟨rfl, HB6.out⟩
end Go.Proofs.YtabcaeckoghmpaaDoor
