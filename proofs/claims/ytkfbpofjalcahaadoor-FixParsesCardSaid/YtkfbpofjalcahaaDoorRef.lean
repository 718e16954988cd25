/- DERIVED. The contract of the reference's Parse (function 6): at a text of at most 400 bytes it returns what the plain function 'Pl.refp' says. -/
import Derived.Test.YtkfbpofjalcahaaDoorProg
import Derived.Test.YtkfbpofjalcahaaDoorRefV
import Derived.Test.YtkfbpofjalcahaaDoorWord
import Derived.WalkKit
import Derived.WalkLawsBesides
import Derived.Outline
import Derived.Deep.DeepCutAuto
import Derived.Deep.CutBlock
namespace Go.Proofs.YtkfbpofjalcahaaDoor
open Go Go.RowKit

theorem isE {T : ByteArray} (h : T.size = 0) : T = ⟨#[]⟩ := ba_ext (by rw [size_zero h])

def signAt : List UInt8 → Bool
  | [] => false
  | c :: _ => c.toNat == 43 || c.toNat == 45

theorem take_tw (p : UInt8 → Bool) (l : List UInt8) : l.take (l.takeWhile p).length = l.takeWhile p := by
  conv => lhs; arg 2; rw [← List.takeWhile_append_dropWhile (p := p) (l := l)]
  rw [List.take_left]
theorem drop_tw (p : UInt8 → Bool) (l : List UInt8) : l.drop (l.takeWhile p).length = l.dropWhile p := by
  conv => lhs; arg 2; rw [← List.takeWhile_append_dropWhile (p := p) (l := l)]
  rw [List.drop_left]
theorem tw_le (p : UInt8 → Bool) (l : List UInt8) : (l.takeWhile p).length ≤ l.length := (List.takeWhile_sublist p).length_le
def dotAt : List UInt8 → Bool
  | [] => false
  | c :: _ => c.toNat == 46

def RetR (l : List UInt8) (w : World) (e : Ending) (w' : World) : Prop :=
  e = .returned (.tuple #[.int .i64 (Pl.refp l).1, .int .i64 (Pl.refp l).2]) ∧ Below w.heap.size w w'
theorem retr_of {l : List UInt8} {w w' : World} {r : Int × Int} {a b : Int} (h : Hid (Pl.refp l = r)) (ha : a = r.1) (hb : b = r.2) (hw : Below w.heap.size w w') :
    RetR l w (.returned (.tuple #[.int .i64 a, .int .i64 b])) w' := by
  have := h.out
  subst ha hb this
  exact ⟨rfl, hw⟩

set_option maxHeartbeats 4000000 in
set_option maxRecDepth 1000000 in
theorem ref_any (s : ByteArray) (w : World) (hs : s.size ≤ 400) :
    Calls Tryd.prog 6 #[.string s] w (RetR s.data.toList w) := by
  go_enter Tryd.func6, Tryd.ntmps6
  go_upto_region 1 with (fail)
  go_cut [4] (fun v wc => v = .bool (Pl.minus s.data.toList) ∧ w = wc)
  case first => as_aux_lemma =>
    by_cases h0 : s.size = 0
    · have Hm : Hid (Pl.minus s.data.toList = false) := by show _ = _; rw [size_zero h0]; rfl
      have h1 : s.size ≤ 0 := by omega
      clear h0
      go_wp2
      go_meet
      case rel => exact ⟨by rw [Hm.out], rfl⟩
    · have hpos : 0 < s.size := by omega
      have Hm : Hid (Pl.minus s.data.toList = (((s[0]).toNat : Int) == 45)) := by
        show _ = _
        rw [head_cons s hpos, Bool.eq_iff_iff]
        simp [Pl.minus]
        omega
      clear h0
      go_wp2
      go_meet
      case rel => exact ⟨by rw [Hm.out], rfl⟩
  case rest =>
    obtain ⟨rfl, rfl⟩ := hcut
    obtain ⟨mi, hmi⟩ : ∃ mi, Pl.minus s.data.toList = mi := ⟨_, rfl⟩
    rw [hmi]
    have HMI := Lib.hid hmi
    clear hmi
    go_upto_region 2 with (fail)
    go_cut [30] (fun v wc => v = .bool (signAt s.data.toList) ∧ w = wc)
    case first => as_aux_lemma =>
      by_cases h0 : s.size = 0
      · have Hm : Hid (signAt s.data.toList = false) := by show _ = _; rw [size_zero h0]; rfl
        obtain rfl : mi = false := by rw [← HMI.out, size_zero h0]; rfl
        have h1 : s.size ≤ 0 := by omega
        clear h0
        go_wp2
        go_meet
        case rel => exact ⟨by rw [Hm.out], rfl⟩
      · have hpos : 0 < s.size := by omega
        have hmi := HMI.out
        have hsg : signAt s.data.toList = ((s[0]).toNat == 43 || (s[0]).toNat == 45) := by rw [head_cons s hpos]; rfl
        rw [head_cons s hpos] at hmi
        simp only [Pl.minus] at hmi
        obtain ⟨C, hC⟩ : ∃ C : Nat, (s[0]).toNat = C := ⟨_, rfl⟩
        rw [hC] at hmi hsg
        have HC := Lib.hid hC
        clear h0 hC
        rcases (by omega : C = 45 ∨ C = 43 ∨ (C ≠ 45 ∧ C ≠ 43)) with rfl | rfl | ⟨q, q'⟩
        · obtain rfl : mi = true := by rw [← hmi]; rfl
          have Hsg := Lib.hid hsg
          clear hmi hsg HMI
          go_wp2
          go_meet
          case rel => exact ⟨by rw [Hsg.out]; rfl, rfl⟩
        · obtain rfl : mi = false := by rw [← hmi]; rfl
          have Hsg := Lib.hid hsg
          have b43 : (((s[0]).toNat : Int) == 43) = true := by rw [HC.out]; rfl
          clear hmi hsg HMI
          go_wp2
          go_meet
          case rel => exact ⟨by rw [Hsg.out]; rfl, rfl⟩
        · obtain rfl : mi = false := by rw [← hmi]; simp [q]
          have Hsg : Hid (signAt s.data.toList = false) := by show _ = _; rw [hsg]; simp [q, q']
          have b43 : (((s[0]).toNat : Int) == 43) = false := by rw [HC.out]; simp; omega
          clear hmi hsg HMI q q'
          go_wp2
          go_meet
          case rel => exact ⟨by rw [Hsg.out], rfl⟩
    case rest =>
      obtain ⟨rfl, rfl⟩ := hcut
      go_upto_if 30 with (fail)
      go_cut [0] (fun v wc => ∃ T : ByteArray, v = .string T ∧ Hid (T.data.toList = Pl.unsign s.data.toList) ∧ T.size ≤ 400 ∧ w = wc)
      case first => as_aux_lemma =>
        by_cases h0 : s.size = 0
        · have Hm : Hid (signAt s.data.toList = false) := by show _ = _; rw [size_zero h0]; rfl
          have Hu : Hid (s.data.toList = Pl.unsign s.data.toList) := by show _ = _; rw [size_zero h0]; rfl
          clear h0
          rw [Hm.out]
          go_wp2
          go_meet
          case rel => exact ⟨s, rfl, Hu, hs, rfl⟩
        · have hpos : 0 < s.size := by omega
          have hsg : signAt s.data.toList = ((s[0]).toNat == 43 || (s[0]).toNat == 45) := by rw [head_cons s hpos]; rfl
          have hu : Pl.unsign s.data.toList = if (s[0]).toNat = 43 ∨ (s[0]).toNat = 45 then s.data.toList.drop 1 else s.data.toList := by
            conv => lhs; rw [head_cons s hpos]
            simp only [Pl.unsign]
            rw [← head_cons s hpos]
          by_cases hq : (s[0]).toNat = 43 ∨ (s[0]).toNat = 45
          · rw [if_pos hq] at hu
            have e : signAt s.data.toList = true := by rw [hsg]; simpa using hq
            rw [e]
            have Hu := Lib.hid hu
            clear hsg hu hq e h0
            go_wp2
            go_meet
            case rel => exact ⟨s.extract 1 s.size, rfl, (Lib.extract_to_end s 1).trans Hu.out.symm, by simp; omega, rfl⟩
          · rw [if_neg hq] at hu
            have e : signAt s.data.toList = false := by rw [hsg]; simpa using hq
            rw [e]
            have Hu := Lib.hid hu
            clear hsg hu hq e h0
            go_wp2
            go_meet
            case rel => exact ⟨s, rfl, Hu.out.symm, hs, rfl⟩
      case rest => as_aux_lemma =>
        obtain ⟨T, rfl, HT, hTs, rfl⟩ := hcut
        have HA : Hid (Pl.refp s.data.toList = Pl.rB mi T.data.toList) := by show _ = _; rw [HT.out, ← HMI.out]; rfl
        clear HT HMI
        go_upto_if 35 with (fail)
        go_cut [5] (fun _ wc => Hid (Pl.refp s.data.toList = Pl.rC mi T.data.toList) ∧ Below w.heap.size w wc)
        case first => as_aux_lemma =>
          by_cases h10 : T.size < 10
          · go_wp2_with fail
            refine (lower_any _ _ hTs).mono ?_
            rintro e w1 ⟨L, rfl, hL, hb⟩
            have hr := HA.out
            unfold Pl.rB at hr
            rw [← hL, list_size, isWord_eq, ← ByteArray.toList_eq L] at hr
            have HB := Lib.hid hb
            clear hL hb HA
            by_cases k1 : L.toList = [110, 97, 110]
            · rw [if_pos ⟨h10, by rw [k1]; rfl⟩] at hr
              have HR := Lib.hid hr
              clear hr
              go_wp2
              go_ret2
              exact retr_of HR rfl rfl HB.out
            by_cases k2 : L.toList = [105, 110, 102]
            · rw [if_pos ⟨h10, by rw [k2]; rfl⟩] at hr
              have HR := Lib.hid hr
              clear hr
              go_wp2
              go_ret2
              exact retr_of HR rfl rfl HB.out
            by_cases k3 : L.toList = [105, 110, 102, 105, 110, 105, 116, 121]
            · rw [if_pos ⟨h10, by rw [k3]; rfl⟩] at hr
              have HR := Lib.hid hr
              clear hr
              go_wp2
              go_ret2
              exact retr_of HR rfl rfl HB.out
            · rw [if_neg (by simp [k1, k2, k3])] at hr
              have HR := Lib.hid hr
              have b1 : (L.toList == [110, 97, 110]) = false := by simpa using k1
              have b2 : (L.toList == [105, 110, 102]) = false := by simpa using k2
              have b3 : (L.toList == [105, 110, 102, 105, 110, 105, 116, 121]) = false := by simpa using k3
              clear hr
              go_wp2
              go_meet
              case rel => exact ⟨HR, HB.out⟩
          · have hr := HA.out
            unfold Pl.rB at hr
            rw [list_size, if_neg (fun k => h10 k.1)] at hr
            have HR := Lib.hid hr
            clear hr HA
            go_wp2
            go_meet
            case rel => exact ⟨HR, Below.refl _ _⟩
        case rest => as_aux_lemma =>
          obtain ⟨HC, hbw⟩ := hcut
          have HBW := Lib.hid hbw
          clear HA hbw
          go_wp2_with fail
          refine (digits_any _ _ hTs).mono ?_
          rintro e w1 ⟨n, rfl, hn, hb⟩
          have hnT : n ≤ T.size := by rw [hn, ← list_size]; exact tw_le _ _
          have HB := Lib.hid (HBW.out.trans (hb.mono HBW.out.size))
          have HN := Lib.hid hn
          clear hn hb HBW
          go_upto_region 11 with (fail)
          obtain ⟨A, hA⟩ : ∃ A, T.extract 0 n = A := ⟨_, rfl⟩
          obtain ⟨R, hR⟩ : ∃ R, T.extract n T.size = R := ⟨_, rfl⟩
          rw [hA, hR]
          have hAl : A.data.toList = T.data.toList.takeWhile Pl.isD := by
            rw [← hA, Lib.extract_data, HN.out, List.drop_zero, Nat.sub_zero, take_tw]
          have hRl : R.data.toList = T.data.toList.dropWhile Pl.isD := by
            rw [← hR, Lib.extract_to_end, HN.out, drop_tw]
          have hsz : A.size + R.size ≤ 400 := by
            rw [← list_size A, ← list_size R, hAl, hRl, ← List.length_append, List.takeWhile_append_dropWhile, list_size]
            exact hTs
          have HD : Hid (Pl.refp s.data.toList = Pl.rD mi A.data.toList R.data.toList) := by show _ = _; rw [HC.out, hAl, hRl]; rfl
          have HAd : Hid (∀ c ∈ A.data.toList, Pl.IsDig c) := by show ∀ c ∈ _, _; rw [hAl]; exact Pl.takeWhile_dig
          clear hA hR hAl hRl HN HC hnT hTs
          go_upto_region 12 with (fail)
          go_cut [63] (fun v wc => v = .bool (dotAt R.data.toList) ∧ w1 = wc)
          case first => as_aux_lemma =>
            by_cases h0 : R.size = 0
            · have Hm : Hid (dotAt R.data.toList = false) := by show _ = _; rw [size_zero h0]; rfl
              have h1 : R.size ≤ 0 := by omega
              clear h0
              go_wp2
              go_meet
              case rel => exact ⟨by rw [Hm.out], rfl⟩
            · have hpos : 0 < R.size := by omega
              have Hm : Hid (dotAt R.data.toList = (((R[0]).toNat : Int) == 46)) := by
                show _ = _
                rw [head_cons R hpos, Bool.eq_iff_iff]
                simp [dotAt]
                omega
              clear h0
              go_wp2
              go_meet
              case rel => exact ⟨by rw [Hm.out], rfl⟩
          case rest => as_aux_lemma =>
            obtain ⟨rfl, rfl⟩ := hcut
            go_upto_if 63 with (fail)
            go_cut [0, 6, 8] (fun v0 _ v8 wc => ∃ R2 B : ByteArray, v0 = .string R2 ∧ v8 = .string B ∧ Hid (Pl.refp s.data.toList = Pl.rE mi A.data.toList B.data.toList R2.data.toList) ∧ A.size + B.size + R2.size ≤ 400 ∧ Hid (∀ c ∈ B.data.toList, Pl.IsDig c) ∧ Hid (Below w.heap.size w wc))
            case first => as_aux_lemma =>
              by_cases h0 : R.size = 0
              · have Hm : Hid (dotAt R.data.toList = false) := by show _ = _; rw [size_zero h0]; rfl
                have HE : Hid (Pl.refp s.data.toList = Pl.rE mi A.data.toList (⟨#[]⟩ : ByteArray).data.toList R.data.toList) := by show _ = _; rw [HD.out, size_zero h0]; rfl
                clear h0
                rw [Hm.out]
                go_wp2
                go_meet
                case rel => exact ⟨R, ⟨#[]⟩, rfl, rfl, HE, by show A.size + 0 + R.size ≤ 400; omega, fun _ h => by simp at h, HB⟩
              · have hpos : 0 < R.size := by omega
                by_cases hq : (R[0]).toNat = 46
                · have e : dotAt R.data.toList = true := by rw [head_cons R hpos]; simpa [dotAt] using hq
                  have hE : Pl.refp s.data.toList = Pl.rE mi A.data.toList ((R.data.toList.drop 1).takeWhile Pl.isD) ((R.data.toList.drop 1).dropWhile Pl.isD) := by
                    rw [HD.out]
                    conv => lhs; rw [head_cons R hpos]
                    rw [Pl.rD, if_pos hq]
                  rw [e]
                  have h1s : (R.extract 1 R.size).size ≤ 400 := by simp; omega
                  have HE := Lib.hid hE
                  clear e hE hq h0 HD
                  go_wp2_with fail
                  refine (digits_any _ _ h1s).mono ?_
                  rintro e w2 ⟨n, rfl, hn, hb⟩
                  rw [Lib.extract_to_end] at hn
                  have hnT : 1 + n ≤ R.size := by
                    have h1 := tw_le Pl.isD (R.data.toList.drop 1)
                    rw [List.length_drop, list_size] at h1
                    omega
                  have HB2 := Lib.hid (HB.out.trans (hb.mono HB.out.size))
                  have HN := Lib.hid hn
                  clear hn hb HB
                  go_wp2
                  go_meet
                  case rel =>
                    have e1 : (R.extract 1 (1 + n)).data.toList = (R.data.toList.drop 1).takeWhile Pl.isD := by
                      rw [Lib.extract_data, HN.out, Nat.add_sub_cancel_left, take_tw]
                    have e2 : (R.extract (1 + n) R.size).data.toList = (R.data.toList.drop 1).dropWhile Pl.isD := by
                      rw [Lib.extract_to_end, ← List.drop_drop, HN.out, drop_tw]
                    exact ⟨R.extract (1 + n) R.size, R.extract 1 (1 + n), rfl, rfl, by rw [e1, e2]; exact HE, by simp; omega, by show ∀ c ∈ _, _; rw [e1]; exact Pl.takeWhile_dig, HB2⟩
                · have e : dotAt R.data.toList = false := by rw [head_cons R hpos]; simpa [dotAt] using hq
                  have hE : Pl.refp s.data.toList = Pl.rE mi A.data.toList (⟨#[]⟩ : ByteArray).data.toList R.data.toList := by
                    rw [HD.out]
                    conv => lhs; rw [head_cons R hpos]
                    rw [Pl.rD, if_neg hq, ← head_cons R hpos]
                  rw [e]
                  have HE := Lib.hid hE
                  clear e hE hq h0 HD
                  go_wp2
                  go_meet
                  case rel => exact ⟨R, ⟨#[]⟩, rfl, rfl, HE, by show A.size + 0 + R.size ≤ 400; omega, fun _ h => by simp at h, HB⟩
            case rest => as_aux_lemma =>
              obtain ⟨R2, B, rfl, rfl, HE, hsz2, HBd, HB2⟩ := hcut
              obtain ⟨wD, hwD⟩ : ∃ wD, wD = wc := ⟨_, rfl⟩
              subst hwD
              clear HD HB hsz R
              by_cases hAB : A.size + B.size = 0
              · have hr := HE.out
                unfold Pl.rE at hr
                rw [list_size, list_size, if_pos hAB] at hr
                have HR := Lib.hid hr
                have hA0 : A.size ≤ 0 := by omega
                have hB0 : B.size ≤ 0 := by omega
                clear hr HE hAB
                go_wp2
                go_ret2
                exact retr_of HR rfl rfl HB2.out
              · have hr := HE.out
                unfold Pl.rE at hr
                rw [list_size, list_size, if_neg hAB] at hr
                have HF := Lib.hid hr
                have hAB' : 0 < A.size + B.size := by omega
                clear hr HE hAB
                go_upto_if 83 with (fail)
                go_cut [0, 6, 9, 10, 11] (fun _ _ v9 _ _ wc => ∃ e : Int, v9 = .int .i64 e ∧ -1099511627776 ≤ e ∧ e ≤ 1099511627776 ∧ Hid (Pl.refp s.data.toList = Pl.value (A.data.toList ++ B.data.toList) (e + 6 - B.data.toList.length) mi) ∧ Hid (Below w.heap.size w wc))
                case first => as_aux_lemma =>
                  by_cases h0 : R2.size = 0
                  · have HR : Hid (Pl.refp s.data.toList = Pl.value (A.data.toList ++ B.data.toList) (0 + 6 - B.data.toList.length) mi) := by show _ = _; rw [HF.out, size_zero h0]; rfl
                    have h1 : R2.size ≤ 0 := by omega
                    clear h0 HF
                    go_wp2
                    go_meet
                    case rel => exact ⟨0, rfl, by omega, by omega, HR, HB2⟩
                  · have hpos : 0 < R2.size := by omega
                    clear h0
                    have hF := HF.out
                    unfold Pl.rF at hF
                    rw [head_cons R2 hpos] at hF
                    simp only [Pl.expo] at hF
                    obtain ⟨C, hC⟩ : ∃ C : Nat, (R2[0]).toNat = C := ⟨_, rfl⟩
                    rw [hC] at hF
                    by_cases hq : C = 101 ∨ C = 69
                    · rw [if_pos hq] at hF
                      obtain ⟨R3, hR3⟩ : ∃ R3, R2.extract 1 R2.size = R3 := ⟨_, rfl⟩
                      have hR3l : R3.data.toList = R2.data.toList.drop 1 := by rw [← hR3, Lib.extract_to_end]
                      have hR3s : R3.size ≤ 400 := by rw [← list_size, hR3l, List.length_drop, list_size]; omega
                      rw [← hR3l] at hF
                      have HG := Lib.hid hF
                      have HR3 := Lib.hid hR3
                      clear hF hR3l hR3 HF
                      have c101 : ((R2[0]).toNat : Int) = C := by rw [hC]
                      clear hC
                      have HH : Hid (R2.extract 1 R2.size = R3) := HR3
                      rcases hq with rfl | rfl
                      all_goals as_aux_lemma =>
                        go_upto_region 23 with (fail)
                        rw [HH.out]
                        go_cut [106] (fun v wc => v = .bool (signAt R3.data.toList) ∧ wD = wc)
                        case first => as_aux_lemma =>
                          by_cases h0 : R3.size = 0
                          · have Hm : Hid (signAt R3.data.toList = false) := by show _ = _; rw [size_zero h0]; rfl
                            have h1 : R3.size ≤ 0 := by omega
                            clear h0
                            go_wp2
                            go_meet
                            case rel => exact ⟨by rw [Hm.out], rfl⟩
                          · have hpos3 : 0 < R3.size := by omega
                            have hsg : signAt R3.data.toList = ((R3[0]).toNat == 43 || (R3[0]).toNat == 45) := by rw [head_cons R3 hpos3]; rfl
                            obtain ⟨D, hD⟩ : ∃ D : Nat, (R3[0]).toNat = D := ⟨_, rfl⟩
                            rw [hD] at hsg
                            have HD := Lib.hid hD
                            clear h0 hD
                            rcases (by omega : D = 43 ∨ D = 45 ∨ (D ≠ 45 ∧ D ≠ 43)) with rfl | rfl | ⟨q, q'⟩
                            · have Hsg := Lib.hid hsg
                              have b43 : (((R3[0]).toNat : Int) == 43) = true := by rw [HD.out]; rfl
                              clear hsg
                              go_wp2
                              go_meet
                              case rel => exact ⟨by rw [Hsg.out]; rfl, rfl⟩
                            · have Hsg := Lib.hid hsg
                              have b43 : (((R3[0]).toNat : Int) == 43) = false := by rw [HD.out]; rfl
                              have b45 : (((R3[0]).toNat : Int) == 45) = true := by rw [HD.out]; rfl
                              clear hsg
                              go_wp2
                              go_meet
                              case rel => exact ⟨by rw [Hsg.out]; rfl, rfl⟩
                            · have Hsg : Hid (signAt R3.data.toList = false) := by show _ = _; rw [hsg]; simp [q, q']
                              have b43 : (((R3[0]).toNat : Int) == 43) = false := by rw [HD.out]; simp; omega
                              have b45 : (((R3[0]).toNat : Int) == 45) = false := by rw [HD.out]; simp; omega
                              clear hsg q q'
                              go_wp2
                              go_meet
                              case rel => exact ⟨by rw [Hsg.out], rfl⟩
                        case rest => as_aux_lemma =>
                          obtain ⟨rfl, rfl⟩ := hcut
                          go_upto_if 106 with (fail)
                          go_cut [0, 10] (fun v0 v10 wc => ∃ (R4 : ByteArray) (dn : Bool), v0 = .string R4 ∧ v10 = .bool dn ∧ R4.size ≤ 400 ∧ Hid (Pl.expoS R3.data.toList = Pl.expoD dn R4.data.toList) ∧ wD = wc)
                          case first => as_aux_lemma =>
                            by_cases h0 : R3.size = 0
                            · have Hm : Hid (signAt R3.data.toList = false) := by show _ = _; rw [size_zero h0]; rfl
                              have Hx : Hid (Pl.expoS R3.data.toList = Pl.expoD false R3.data.toList) := by show _ = _; rw [size_zero h0]; rfl
                              clear h0
                              rw [Hm.out]
                              go_wp2
                              go_meet
                              case rel => exact ⟨R3, false, rfl, rfl, hR3s, Hx, rfl⟩
                            · have hpos3 : 0 < R3.size := by omega
                              have hsg : signAt R3.data.toList = ((R3[0]).toNat == 43 || (R3[0]).toNat == 45) := by rw [head_cons R3 hpos3]; rfl
                              have hx : Pl.expoS R3.data.toList = if (R3[0]).toNat = 43 ∨ (R3[0]).toNat = 45 then Pl.expoD ((R3[0]).toNat == 45) (R3.data.toList.drop 1) else Pl.expoD false R3.data.toList := by
                                conv => lhs; rw [head_cons R3 hpos3]
                                rw [Pl.expoS, ← head_cons R3 hpos3]
                              by_cases hq : (R3[0]).toNat = 43 ∨ (R3[0]).toNat = 45
                              · rw [if_pos hq] at hx
                                have e : signAt R3.data.toList = true := by rw [hsg]; simpa using hq
                                rw [e]
                                have Hx := Lib.hid hx
                                clear hsg hx hq e h0
                                go_wp2
                                go_meet
                                case rel => exact ⟨R3.extract 1 R3.size, ((R3[0]).toNat : Int) == 45, rfl, rfl, by simp; omega, by rw [Lib.extract_to_end, show ((((R3[0]).toNat : Int)) == 45) = ((R3[0]).toNat == 45) by rw [Bool.eq_iff_iff]; simp; omega]; exact Hx, rfl⟩
                              · rw [if_neg hq] at hx
                                have e : signAt R3.data.toList = false := by rw [hsg]; simpa using hq
                                rw [e]
                                have Hx := Lib.hid hx
                                clear hsg hx hq e h0
                                go_wp2
                                go_meet
                                case rel => exact ⟨R3, false, rfl, rfl, hR3s, Hx, rfl⟩
                          case rest => as_aux_lemma =>
                            obtain ⟨R4, dn, rfl, rfl, hR4, HX, rfl⟩ := hcut
                            have hG := HG.out
                            rw [HX.out] at hG
                            unfold Pl.expoD at hG
                            rw [list_size] at hG
                            clear HG HX
                            by_cases h0 : R4.size = 0
                            · rw [if_pos (Or.inl (size_zero h0))] at hG
                              have HR := Lib.hid hG
                              have h00 : ((R4.size : Int) == 0) = true := by rw [h0]; rfl
                              clear hG h0
                              go_wp2
                              go_ret2
                              exact retr_of HR rfl rfl HB2.out
                            · have hpos4 : 0 < R4.size := by omega
                              have h00 : ((R4.size : Int) == 0) = false := by rw [beq_eq_false_iff_ne]; omega
                              have hne : R4.data.toList ≠ [] := by
                                intro h
                                have := congrArg List.length h
                                rw [list_size] at this
                                exact h0 this
                              have HN := Lib.hid hG
                              have HNE := Lib.hid hne
                              clear hG hne h0
                              go_wp2_with fail
                              refine (digits_any _ _ hR4).mono ?_
                              rintro e w3 ⟨n, rfl, hn, hb⟩
                              have hnl : n ≤ R4.size := by rw [hn, ← list_size]; exact tw_le _ _
                              have HB4 := Lib.hid (HB2.out.trans (hb.mono HB2.out.size))
                              have hG := HN.out
                              rw [← hn] at hG
                              have Hn := Lib.hid hn
                              clear HN hn hb HB2
                              by_cases hlt : n < R4.size
                              · rw [if_pos (Or.inr hlt)] at hG
                                have HR := Lib.hid hG
                                clear hG
                                go_wp2
                                go_ret2
                                exact retr_of HR rfl rfl HB4.out
                              · rw [if_neg (fun k => k.elim HNE.out hlt)] at hG
                                have HR := Lib.hid hG
                                have Had : Hid (∀ c ∈ R4.data.toList, Pl.IsDig c) := Pl.all_dig (by rw [← Hn.out, list_size]; exact hlt)
                                clear hG Hn HNE
                                go_wp2
                                go_loop [9, 11] (fun v9 v11 => ∃ (k : Nat) (e : Int), k ≤ R4.size ∧ v11 = .int .i64 k ∧ v9 = .int .i64 e ∧ 0 ≤ e ∧ e ≤ 1099511627776 ∧ Hid (e = Pl.foldE 0 (R4.data.toList.take k))) (fun _ i => R4.size - (intOf i).toNat)
                                case atStart => exact ⟨0, 0, by omega, rfl, rfl, by omega, by omega, rfl⟩
                                case round =>
                                  obtain ⟨k, e, hk, rfl, rfl, f0, f1, He⟩ := hrel
                                  by_cases hkl : k < R4.size
                                  · have hmem : R4[k] ∈ R4.data.toList := by
                                      have : R4[k] = R4.data.toList[k]'(by rw [list_size]; exact hkl) := rfl
                                      rw [this]
                                      exact List.getElem_mem _
                                    obtain ⟨d0, d1⟩ := Had.out _ hmem
                                    have Hs : Hid (∀ e' : Int, e' = min (10 * e + (((R4[k]).toNat : Int) - 48)) 1099511627776 → e' = Pl.foldE 0 (R4.data.toList.take (k + 1))) := by
                                      intro e' h'
                                      have : R4.data.toList.take (k + 1) = R4.data.toList.take k ++ [R4[k]] := by
                                        rw [List.take_succ_eq_append_getElem (by rw [list_size]; exact hkl)]
                                        rfl
                                      rw [this, Pl.foldE_snoc, ← He.out, h']
                                    obtain ⟨D, hD⟩ : ∃ D : Int, ((R4[k]).toNat : Int) = D := ⟨_, rfl⟩
                                    have HS := Hs.out
                                    rw [hD] at HS
                                    have HS2 := Lib.hid HS
                                    have g0 : 48 ≤ D := by omega
                                    have g1 : D ≤ 57 := by omega
                                    clear hmem Hs HS d0 d1 He
                                    go_wp2
                                    all_goals
                                      go_round
                                      case rel => exact ⟨k + 1, _, by omega, by go_num, rfl, by omega, by omega, HS2.out _ (by omega)⟩
                                      case measure => simp [intOf]; omega
                                  · obtain rfl : k = R4.size := by omega
                                    have he := He.out
                                    rw [List.take_of_length_le (by rw [list_size]; omega)] at he
                                    have hr := HR.out
                                    rw [← he] at hr
                                    cases dn with
                                    | true =>
                                      rw [if_pos rfl] at hr
                                      have HR2 := Lib.hid hr
                                      clear he hr He HR
                                      go_wp2
                                      go_meet
                                      case rel => exact ⟨-e, rfl, by omega, by omega, HR2, HB4⟩
                                    | false =>
                                      rw [if_neg (by simp)] at hr
                                      have HR2 := Lib.hid hr
                                      clear he hr He HR
                                      go_wp2
                                      go_meet
                                      case rel => exact ⟨e, rfl, by omega, by omega, HR2, HB4⟩
                    · rw [if_neg hq] at hF
                      have HR := Lib.hid hF
                      have n101 : (((R2[0]).toNat : Int) != 101) = true := by rw [hC]; simp; omega
                      have n69 : (((R2[0]).toNat : Int) != 69) = true := by rw [hC]; simp; omega
                      clear hF hC hq HF
                      go_wp2
                      go_ret2
                      exact retr_of HR rfl rfl HB2.out
                case rest => as_aux_lemma =>
                  obtain ⟨e, rfl, e0, e1, HV, HB3⟩ := hcut
                  clear HF HB2
                  have hcat : (A ++ B).data.toList = A.data.toList ++ B.data.toList := by simp
                  have hv := HV.out
                  rw [← hcat, list_size] at hv
                  have hds : ∀ c ∈ (A ++ B).data.toList, Pl.IsDig c := by
                    rw [hcat]
                    intro c hc
                    exact (List.mem_append.1 hc).elim (HAd.out c) (HBd.out c)
                  have hcs : (A ++ B).size ≤ 400 := by rw [ByteArray.size_append]; omega
                  have hx0 : -2000000000000 ≤ e + 6 - (B.size : Int) := by omega
                  have hx1 : e + 6 - (B.size : Int) ≤ 1999999999000 := by omega
                  have HU := Lib.hid (fun W => value_any (A ++ B) (e + 6 - (B.size : Int)) mi W hcs hx0 hx1 hds)
                  have HW := Lib.hid hv
                  clear hv hcat hds HV HAd HBd hcs hx0 hx1
                  go_wp2_with fail
                  refine (HU.out _).mono ?_
                  rintro e5 w5 ⟨rfl, hb⟩
                  have HB5 := Lib.hid (HB3.out.trans (hb.mono HB3.out.size))
                  clear hb HU HB3
                  go_wp2_with fail
                  go_ret2
                  exact retr_of HW rfl rfl HB5.out
end Go.Proofs.YtkfbpofjalcahaaDoor
