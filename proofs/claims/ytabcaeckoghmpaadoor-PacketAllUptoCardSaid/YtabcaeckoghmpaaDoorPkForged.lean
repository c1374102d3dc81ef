/- The law PacketForged's walk. -/
import Derived.Test.YtabcaeckoghmpaaDoorPkAwake
import Derived.Test.YtabcaeckoghmpaaDoorCRef
namespace Go.Proofs.YtabcaeckoghmpaaDoor
set_option linter.unusedVariables false
set_option linter.unusedSimpArgs false
open Go.RowKit Go.Proofs.YtabcaeckoghmpaaDoorW.PrintWords

set_option maxRecDepth 100000 in
set_option maxHeartbeats 1000000 in
theorem low_any (v : Nat) (w : World) (hv : v < 4294967296) (L : List Int) (hL : Aside0 (le4 v = L)) : Calls Tryd.prog 22 #[.int .u32 (v : Int)] w fun e w' => ∃ v', e = .returned v' ∧ Aside0 (w'.ownsRow w.heap.size 5 1 v' 4 (nums .u8 L)) ∧ Aside0 (Below w.heap.size w w') := by
  go_enter Tryd.func22, Tryd.ntmps22
  have hle : le4 v = [(v : Int) % 256, (v : Int) / 256 % 256, (v : Int) / 65536 % 256, (v : Int) / 16777216] := by
    simp only [le4, List.cons.injEq, and_true]
    omega
  have HLE := Aside0.mk hle
  clear hle
  go_wp2
  go_ret
  refine ⟨_, rfl, ⟨?_⟩, ⟨(Below.refl _ _).alloc (Nat.le_refl _) _⟩⟩
  rw [← hL.out, HLE.out]
  exact own_lit w w.heap.size 5 .u8 [(v : Int) % 256, (v : Int) / 256 % 256, (v : Int) / 65536 % 256, (v : Int) / 16777216] (Nat.le_refl _) (by simp)
theorem sum_any (A : Option Addr) (n c : Nat) (xs : List Int) (w : World) (hn : n = xs.length) (hr : ReadsInt w .u8 A n xs) (hw : ∀ x ∈ xs, 0 ≤ x ∧ x ≤ 255) (L : List Int) (hL : Aside0 (le4 (crcF 0 xs) = L)) :
    Calls Tryd.prog 18 #[.slice A n c] w fun e w' => ∃ v', e = .returned v' ∧ Aside0 (w'.ownsRow w.heap.size 5 1 v' 4 (nums .u8 L)) ∧ Aside0 (Below w.heap.size w w') := by
  subst hn
  have HW := Aside0.mk hw
  have HR := Aside0.mk hr
  have HQ := Aside0.mk (crcF_lt 0 xs)
  clear hr hw
  go_enter Tryd.func18, Tryd.ntmps18
  go_wp2_with fail
  refine (rmore_new A _ c 0 xs w rfl HR.out (by decide) (by decide) HW.out).mono ?_
  rintro e w1 ⟨r, rfl, hr, rfl⟩
  obtain ⟨q, hq⟩ : ∃ q, crcF 0 xs = q := ⟨_, rfl⟩
  have hrq : r = (q : Int) := by rw [hr.out, ← hq]; rfl
  subst hrq
  rw [hq] at hL HQ
  clear hq hr
  go_wp2_with fail
  refine (low_any q w HQ.out L hL).mono ?_
  rintro e w1 ⟨v', rfl, ho, hb⟩
  go_wp2
  go_ret
  exact ⟨_, rfl, ho, hb⟩
theorem pk0_no : pkOk pk0 = false := by decide +kernel
set_option maxRecDepth 100000 in
set_option maxHeartbeats 2000000 in
theorem packetforged_walk (A0 : Option Addr) (c0 : Nat) (xs : List Int) (w : World) (hr : ReadsInt w .u8 A0 xs.length xs) (hc : xs.length ≤ c0) (hl : xs.length * 1 ≤ 140737488351232) (hw : ∀ x ∈ xs, 0 ≤ x ∧ x ≤ 255) (hT : Tabs w) :
    Calls Tryd.prog 6 #[.slice A0 xs.length c0] w fun e w' => e = .returned (.bool true) ∧ Below w.heap.size w w' := by
  have HR := Aside0.mk hr
  have HW := Aside0.mk hw
  have HT := Aside0.mk hT
  clear hr hw hT
  by_cases h1 : xs.length < 10 ∨ 3000 < xs.length
  · by_cases h2 : xs.length < 10
    · go_enter Tryd.func6, Tryd.ntmps6
      go_wp2_with fail
      refine (awake_any _ HT.out).mono ?_
      rintro e w6 ⟨rfl, hB6⟩
      have HB6 := Aside0.mk hB6
      clear hB6
      go_wp2
      go_ret
      exact ⟨rfl, HB6.out⟩
    · have h3 : 3000 < xs.length := by omega
      go_enter Tryd.func6, Tryd.ntmps6
      go_wp2_with fail
      refine (awake_any _ HT.out).mono ?_
      rintro e w6 ⟨rfl, hB6⟩
      have HB6 := Aside0.mk hB6
      clear hB6
      go_wp2
      go_ret
      exact ⟨rfl, HB6.out⟩
  · have h2 : ¬ xs.length < 10 := by omega
    have h3 : ¬ 3000 < xs.length := by omega
    obtain ⟨L, hL⟩ : ∃ L, le4 (crcF 0 xs) = L := ⟨_, rfl⟩
    have hLl : L.length = 4 := by rw [← hL]; rfl
    obtain ⟨zs, hz⟩ : ∃ zs, L ++ xs = zs := ⟨_, rfl⟩
    have hzl : zs.length = 4 + xs.length := by rw [← hz, List.length_append, hLl]
    have HZW : Aside0 (∀ x ∈ zs, 0 ≤ x ∧ x ≤ 255) := ⟨by
      intro x hx
      rw [← hz] at hx
      rcases List.mem_append.1 hx with hx | hx
      · exact le4_bytes _ x (hL ▸ hx)
      · exact HW.out x hx⟩
    obtain ⟨p, er, hp⟩ : ∃ p er, getB zs = (p, er) := ⟨_, _, rfl⟩
    have hgx : getX xs = (p, er) := by
      rw [getB, if_neg (by omega), ← hz, List.drop_left' hLl, List.take_left' hLl, if_neg (by rw [hL]; simp)] at hp
      exact hp
    have HPG := Aside0.mk hp
    have HLE := Aside0.mk hL
    have HZ := Aside0.mk hz
    have HLL := Aside0.mk hLl
    have HGX := Aside0.mk hgx
    have HZL := Aside0.mk hzl
    clear hp hL hz hgx hLl hzl
    go_enter Tryd.func6, Tryd.ntmps6
    go_wp2_with fail
    refine (sum_any A0 _ c0 xs w rfl HR.out HW.out L HLE).mono ?_
    rintro e w1 ⟨v1, rfl, ho1, hB1⟩
    rw [← HLL.out] at ho1
    go_wp2_with (at_builtin; go_must (refine print_append_row (w0 := w) w.heap.size rfl _ _ 24 5 .u8 1 rfl Tryd.underlying24 info5 (by omega) v1 L xs A0 _ _ rfl rfl (by exact ho1.out) (by exact HR.out.below hB1.out) (by exact hB1.out) hB1.out.size (by rw [HLL.out]; omega) ?_); rintro v2 w2 ho2 hb2 _ _; rw [HZ.out] at ho2; have HO2 := Aside0.mk ho2; obtain ⟨A2, c2, rfl, hr2⟩ := own_reads ho2; have HR2 := Aside0.mk hr2; have HC2 := Aside0.mk (own_le ho2); have HB2 := Aside0.mk hb2; clear hr2 ho2 hb2)
    refine (bytes_new A2 _ c2 zs w2 rfl HR2.out (by rw [HZL.out]; omega)).mono ?_
    rintro e w3 ⟨v3, rfl, ho3, hB3⟩
    have HB3 := Aside0.mk (HB2.out.trans (hB3.out.mono HB2.out.size))
    go_wp2_with fail
    refine (get_own w2.heap.size v3 zs w3 ho3.out (by rw [HZL.out]; omega) HZW.out (tabs_below HT.out HB3.out) p er HPG).mono ?_
    rintro e w4 ⟨rfl, hB4⟩
    have HB34 := Aside0.mk (hB3.out.trans (hB4.mono hB3.out.size))
    have HB4 := Aside0.mk (HB3.out.trans (hB4.mono HB3.out.size))
    clear hB4
    have HO4 := Aside0.mk (pw_own_below HO2.out HB34.out)
    by_cases he : er = 0
    · subst he
      obtain ⟨hok, hput⟩ := put_getB zs HZW.out p HPG.out
      obtain ⟨kind, fr, to_, id, ver, meth, err, body⟩ := p
      have hms := pk_sizes hok
      have HOK := Aside0.mk hok
      have HPUT := Aside0.mk hput
      clear hok hput
      unfold pkV
      go_wp2_with fail
      refine (put_any ⟨kind, fr, to_, id, ver, meth, err, body⟩ _ (tabs_below HT.out (HB4.out.alloc HB4.out.size _)) (Nat.le_trans hms.1 (by decide)) (Nat.le_trans hms.2 (by decide)) true HOK zs ⟨HPUT.out⟩).mono ?_
      rintro e w5 ⟨v5, rfl, ho5, hB5⟩
      have HB5 := Aside0.mk ((HB4.out.alloc HB4.out.size _).trans (hB5.out.mono (HB4.out.alloc HB4.out.size _).size))
      have HO5 := Aside0.mk (pw_own_below (pw_own_below HO4.out ((Below.refl _ _).alloc (Nat.le_refl _) _)) hB5.out)
      have hc5 := str_own ho5.out
      have hc6 := str_own HO5.out
      go_wp2_with fail
      refine (awake_any _ (tabs_below HT.out HB5.out)).mono ?_
      rintro e w6 ⟨rfl, hB6⟩
      have HB6 := Aside0.mk (HB5.out.trans (hB6.mono HB5.out.size))
      clear hB6
      go_wp2
      go_ret
      exact ⟨rfl, HB6.out⟩
    · have hx : getX xs = (pk0, 3) := by
        rcases getX_err xs with h | h
        · rw [HGX.out] at h
          exact absurd h he
        · exact h
      rw [HGX.out] at hx
      cases hx
      unfold pkV pk0
      go_wp2_with fail
      refine (put_any pk0 _ (tabs_below HT.out (HB4.out.alloc HB4.out.size _)) (by decide) (by decide) false ⟨pk0_no⟩ [] ⟨rfl⟩).mono ?_
      rintro e w5 ⟨v5, rfl, ho5, hB5⟩
      have HB5 := Aside0.mk ((HB4.out.alloc HB4.out.size _).trans (hB5.out.mono (HB4.out.alloc HB4.out.size _).size))
      go_wp2_with fail
      refine (awake_any _ (tabs_below HT.out HB5.out)).mono ?_
      rintro e w6 ⟨rfl, hB6⟩
      have HB6 := Aside0.mk (HB5.out.trans (hB6.mono HB5.out.size))
      clear hB6
      go_wp2
      go_ret
      exact ⟨rfl, HB6.out⟩
end Go.Proofs.YtabcaeckoghmpaaDoor
