/- DERIVED. The contract of fix.Parse (function 5): at a text of at most 400 bytes it returns what the plain function 'Pl.parse' says. -/
import Derived.Test.YtkfbpofjalcahaaDoorParts
import Derived.Test.YtkfbpofjalcahaaDoorWord
import Derived.Test.YtkfbpofjalcahaaDoorCallees
namespace Go.Proofs.YtkfbpofjalcahaaDoor
open Go Go.RowKit Go.Lib

def RetP (l : List UInt8) (w : World) (e : Ending) (w' : World) : Prop :=
  e = .returned (.tuple #[.int .i64 (Pl.parse l).1, .int .i64 (Pl.parse l).2]) ∧ Below w.heap.size w w'
theorem ret_of {l : List UInt8} {w w' : World} {r : Int × Int} {a b : Int} (h : Hid (Pl.parse l = r)) (ha : a = r.1) (hb : b = r.2) (hw : Below w.heap.size w w') :
    RetP l w (.returned (.tuple #[.int .i64 a, .int .i64 b])) w' := by
  have := h.out
  subst ha hb this
  exact ⟨rfl, hw⟩

set_option maxHeartbeats 4000000 in
set_option maxRecDepth 1000000 in
theorem parse_any (s : ByteArray) (w : World) (hs : s.size ≤ 400) :
    Calls Tryd.prog 5 #[.string s] w (RetP s.data.toList w) := by
  have cw := fun W => word_any s W hs
  have cp := fun W => parts_any s W hs
  by_cases hw : Pl.word s.data.toList = true
  · have hp : Hid (Pl.parse s.data.toList = (0, 4)) := by show _ = _; unfold Pl.parse; rw [if_pos hw]
    rw [hw] at cw
    have CW := Lib.hid cw
    clear hw cw cp
    go_enter Tryd.func5, Tryd.ntmps5
    go_wp2_with (go_at_call 9; refine (CW.out _).mono ?_; rintro e w1 ⟨rfl, hb⟩)
    go_ret2
    exact ret_of hp rfl rfl hb
  · have hw' : Pl.word s.data.toList = false := by simpa using hw
    have hp : Hid (Pl.parse s.data.toList = match Pl.parts s.data.toList with | none => (0, 3) | some (neg, ds, x) => Pl.value ds (x + 6) neg) := by show _ = _; unfold Pl.parse; rw [if_neg hw]; rfl
    rw [hw'] at cw
    have CW := Lib.hid cw
    have CP := Lib.hid cp
    clear hw cw cp hw'
    cases hP : Pl.parts s.data.toList with
    | none =>
      rw [hP] at hp
      have HP := Lib.hid hP
      clear hP
      go_enter Tryd.func5, Tryd.ntmps5
      go_wp2_with fail
      refine (CW.out _).mono ?_
      rintro e w1 ⟨rfl, hb1⟩
      go_wp2_with fail
      refine (CP.out _).mono ?_
      rintro e w2 ⟨pa, pd, px, rfl, hpp, hb2⟩
      rw [HP.out]
      have HB := Lib.hid (hb1.trans (hb2.mono hb1.size))
      have hz := Nat.le_trans hb1.size hb2.size
      clear hpp hb1 hb2
      go_wp2_with fail
      go_ret2
      exact ret_of hp rfl rfl (HB.out.alloc hz _)
    | some r =>
      obtain ⟨neg, ds, x⟩ := r
      rw [hP] at hp
      obtain ⟨x0, x1, hdl, hdg⟩ := Pl.parts_inv hP
      rw [show s.data.toList.length = s.size by simp] at x0 hdl
      have HP := Lib.hid hP
      have HG := Lib.hid hdg
      clear hP hdg
      go_enter Tryd.func5, Tryd.ntmps5
      go_wp2_with fail
      refine (CW.out _).mono ?_
      rintro e w1 ⟨rfl, hb1⟩
      go_wp2_with fail
      refine (CP.out _).mono ?_
      rintro e w2 ⟨pa, pd, px, rfl, hpp, hb2⟩
      rw [HP.out]
      obtain ⟨rfl, hpd, rfl⟩ := hpp _ HP.out
      have hpd' : pd.data.toList = ds := by rw [hpd]
      have HPD := Lib.hid hpd'
      have HB := Lib.hid (hb1.trans (hb2.mono hb1.size))
      have hz := Nat.le_trans hb1.size hb2.size
      have hds : pd.size ≤ 400 := by rw [← hpd'] at hdl; simp at hdl; omega
      clear hpp hb1 hb2 hpd hpd' CW CP HP
      go_wp2_with fail
      refine (trimL_any _ _).mono ?_
      rintro e w3 ⟨D, rfl, hD, rfl⟩
      rw [HPD.out] at hD
      have hDs : D.size = (Pl.trimL ds).length := by rw [← hD]; simp
      by_cases h0 : Pl.trimL ds = []
      · have hp2 : Hid (Pl.parse s.data.toList = (0, 0)) := by
          show _ = _
          rw [hp.out]
          unfold Pl.value
          rw [if_pos h0]
        obtain rfl : D = ⟨#[]⟩ := by rw [h0] at hD; obtain ⟨⟨l⟩⟩ := D; simp at hD; subst hD; rfl
        clear hD hDs h0 hp HG
        go_wp2_with fail
        go_ret2
        exact ret_of hp2 rfl rfl (HB.out.alloc hz _)
      · have hne : D.toList.isEmpty = false := by
          rw [ByteArray.toList_eq, hD]
          cases hh : Pl.trimL ds with
          | nil => exact absurd hh h0
          | cons a r => rfl
        have hnn : ¬ D.toList = [] := by intro h; rw [h] at hne; cases hne
        have hDl : D.size ≤ 400 := by have := Pl.trimL_len ds; omega
        have HD := Lib.hid hD
        have HDs := Lib.hid hDs
        have H0 := Lib.hid h0
        clear hD hDs h0
        go_wp2_with fail
        refine (trimR_any _ _ hDl).mono ?_
        rintro e w3 ⟨S, rfl, hS, rfl⟩
        rw [HD.out] at hS
        have hSs : S.size = (Pl.trimR (Pl.trimL ds)).length := by rw [← hS]; simp
        have hSl : S.size ≤ D.size := by rw [hSs, HDs.out]; exact Pl.trimR_len _
        have hv := hp.out
        unfold Pl.value at hv
        rw [if_neg H0.out, ← hSs, ← HDs.out] at hv
        by_cases hc : px + 6 + ((D.size : Int) - S.size) < 0 ∨ 19 < (S.size : Int) + (px + 6 + ((D.size : Int) - S.size))
        · rw [if_pos hc] at hv
          have hp2 := Lib.hid hv
          clear hv hSs hS hp
          rcases (by omega : px + 6 + ((D.size : Int) - S.size) < 0 ∨ (0 ≤ px + 6 + ((D.size : Int) - S.size) ∧ 19 < (S.size : Int) + (px + 6 + ((D.size : Int) - S.size)))) with hc1 | ⟨hc1, hc2⟩
          · clear hc
            go_wp2_with fail
            go_ret2
            exact ret_of hp2 rfl rfl (HB.out.alloc hz _)
          · clear hc
            go_wp2_with fail
            go_ret2
            exact ret_of hp2 rfl rfl (HB.out.alloc hz _)
        · rw [if_neg hc] at hv
          have hp2 := Lib.hid hv
          have hc1 : 0 ≤ px + 6 + ((D.size : Int) - S.size) := by omega
          have hc2 : (S.size : Int) + (px + 6 + ((D.size : Int) - S.size)) ≤ 19 := by omega
          have HS := Lib.hid hS
          have HSs := Lib.hid hSs
          clear hv hSs hS hp hc
          go_wp2_with fail
          refine (repeat_any _ _ (by omega) (by omega)).mono ?_
          rintro e w4 ⟨R, rfl, hR, hb4⟩
          have hRs : R.size = (px + 6 + ((D.size : Int) - S.size)).toNat := by
            have := congrArg List.length hR
            simpa using this
          have hRl : S.size + R.size ≤ 19 := by omega
          have hcat : (S ++ R).data.toList = Pl.trimR (Pl.trimL ds) ++ List.replicate (px + 6 + ((D.size : Int) - S.size)).toNat 48 := by
            rw [← HS.out, ← hR]
            simp
          have hdig : ∀ c ∈ (S ++ R).data.toList, Pl.IsDig c := by
            rw [hcat]
            intro c hc
            rcases List.mem_append.1 hc with h | h
            · exact HG.out c (Pl.trimL_mem (Pl.trimR_mem h))
            · rw [List.eq_of_mem_replicate h]; exact ⟨by decide, by decide⟩
          have hnil : (S ++ R).data.toList ≠ [] := by
            rw [hcat]
            exact fun h => Pl.trimR_ne H0.out (List.append_eq_nil_iff.1 h).1
          have hlen : (S ++ R).data.toList.length ≤ 19 := by
            rw [hcat]
            simp only [List.length_append, List.length_replicate]
            have := HSs.out
            omega
          have hlt := Pl.natOf_lt (S ++ R).data.toList 0 0 hdig (by decide)
          have hlt2 : (Pl.natOf 0 (S ++ R).data.toList : Int) < 18446744073709551616 := by
            have h1 : (10 : Nat) ^ (0 + (S ++ R).data.toList.length) ≤ 10 ^ 19 := Nat.pow_le_pow_right (by omega) (by omega)
            have e19 : (10 : Nat) ^ 19 = 10000000000000000000 := by decide
            omega
          have hX : w4.heap[w2.heap.size]? = some (.cells #[.bool pa, .string pd, .int .i64 px] 32 (0, 0)) := by
            rw [hb4.block _ (by simp)]
            exact heap_alloc_new _ _
          have hb5 : Below w.heap.size w w4 := (HB.out.alloc hz _).trans (hb4.mono (by simp; omega))
          have hz4 : w2.heap.size < w4.heap.size := by have := hb4.size; simp at this; omega
          rw [← hcat] at hp2
          have HP2 := Lib.hid hp2
          have HU := Lib.hid (fun W => uint_any (S ++ R) W hnil hlen hdig)
          have HX := Lib.hid hX
          have HB5 := Lib.hid hb5
          have HL2 := Lib.hid hlt2
          clear hp2 hdig hnil hlen hlt hcat hR hRs hX hb5 hb4 hlt2 HS HSs HB H0 HG HD HDs
          go_wp2_with fail
          refine (HU.out _).mono ?_
          rintro e w5 ⟨rfl, hb6⟩
          obtain ⟨N, hN⟩ : ∃ N : Int, (Pl.natOf 0 (S ++ R).data.toList : Int) = N := ⟨_, rfl⟩
          have HP3 := HP2.out
          have hl2 := HL2.out
          rw [hN] at HP3 hl2
          rw [hN]
          have hN0 : 0 ≤ N := by omega
          have hX5 : w5.heap[w2.heap.size]? = some (.cells #[.bool pa, .string pd, .int .i64 px] 32 (0, 0)) := by
            rw [hb6.block _ hz4]
            exact HX.out
          obtain ⟨k0, k1, k2, _⟩ := three_cells hX5
          have HB6 := Lib.hid (HB5.out.trans (hb6.mono (by have := HB5.out.size; omega)))
          have HP4 := Lib.hid HP3
          clear hN HU HP3 HP2 hX5 HX hb6 HL2 HB5
          go_wp2_with fail
          refine (signed_any _ _ _ hN0 hl2).mono ?_
          rintro e w6 ⟨rfl, rfl⟩
          go_wp2_with fail
          go_ret2
          exact ret_of HP4 rfl rfl HB6.out
end Go.Proofs.YtkfbpofjalcahaaDoor
