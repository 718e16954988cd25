/- DERIVED. The contracts of the reference's lower and digits (functions 16, 17): what the plain functions say. -/
import Derived.Test.YtkfbpofjalcahaaDoorProg
import Derived.Test.YtkfbpofjalcahaaDoorPlr
import Derived.WalkKit
import Derived.WalkLawsBesides
import Derived.Outline
import Derived.Below
import Derived.Lib.Hide
import Derived.Lib.IndexBytes
import Derived.Laws.BytesArg
namespace Go.Proofs.YtkfbpofjalcahaaDoor
open Go Go.RowKit

theorem ba_ext {a b : ByteArray} (h : a.data.toList = b.data.toList) : a = b := by
  obtain ⟨⟨x⟩⟩ := a
  obtain ⟨⟨y⟩⟩ := b
  simp at h
  rw [h]

theorem drop_at (s : ByteArray) (i : Nat) (h : i < s.size) : s.data.toList.drop i = s[i] :: s.data.toList.drop (i + 1) := by
  rw [List.drop_eq_getElem_cons (by simpa using h)]
  rfl

set_option maxRecDepth 100000 in
theorem digits_any (s : ByteArray) (w : World) (hs : s.size ≤ 400) :
    Calls Tryd.prog 17 #[.string s] w fun e w' => ∃ n : Nat, e = .returned (.int .i64 n) ∧ n = (s.data.toList.takeWhile Pl.isD).length ∧ Below w.heap.size w w' := by
  go_enter Tryd.func17, Tryd.ntmps17
  go_wp2
  go_loop [3] (fun v => ∃ k : Nat, k ≤ s.size ∧ v = .int .i64 k ∧ Hid (k + ((s.data.toList.drop k).takeWhile Pl.isD).length = (s.data.toList.takeWhile Pl.isD).length)) (fun v => s.size - (intOf v).toNat)
  case atStart => exact ⟨0, by omega, rfl, by show 0 + _ = _; rw [List.drop_zero, Nat.zero_add]⟩
  case round =>
    obtain ⟨k, hk, rfl, HK⟩ := hrel
    by_cases hlt : k < s.size
    · have hdr := drop_at s k hlt
      obtain ⟨C, hC⟩ : ∃ C : Int, ((s[k]).toNat : Int) = C := ⟨_, rfl⟩
      have h0 : 0 ≤ C := by omega
      by_cases hd : 48 ≤ C ∧ C ≤ 57
      · obtain ⟨d0, d1⟩ := hd
        have H1 : Hid (k + 1 + ((s.data.toList.drop (k + 1)).takeWhile Pl.isD).length = (s.data.toList.takeWhile Pl.isD).length) := by
          have := HK.out
          rw [hdr, List.takeWhile_cons, if_pos (by simp [Pl.isD]; omega), List.length_cons] at this
          show _ = _
          omega
        clear hdr HK
        go_wp2
        go_round
        case rel => exact ⟨k + 1, by omega, by go_num, H1⟩
        case measure => simp [intOf]; omega
      · have H1 : Hid (k = (s.data.toList.takeWhile Pl.isD).length) := by
          have := HK.out
          rw [hdr, List.takeWhile_cons, if_neg (by simp [Pl.isD]; omega)] at this
          exact this
        clear hdr HK
        rcases (by omega : C < 48 ∨ 57 < C) with q | q
        all_goals
          clear hd
          go_wp2
          go_ret
          exact ⟨k, rfl, H1.out, Below.refl _ _⟩
    · have H1 : Hid (k = (s.data.toList.takeWhile Pl.isD).length) := by
        have := HK.out
        rw [List.drop_eq_nil_of_le (by simp; omega)] at this
        exact this
      clear HK
      go_wp2
      go_ret
      exact ⟨k, rfl, H1.out, Below.refl _ _⟩

set_option maxRecDepth 100000 in
theorem conv_one (W : World) (b : UInt8) (V : Int) (hV : V = b.toNat) :
    (convert 46 9 (.slice (some ⟨W.heap.size, 0, none⟩) 1 1)).run Tryd.prog (W.alloc (.cells #[.int .u8 V] 5)) = .ok (.string ⟨#[b]⟩) (W.alloc (.cells #[.int .u8 V] 5)) := by
  have h := run_convert_bytes_arg (P := Tryd.prog) (W.alloc (.cells #[.int .u8 V] 5)) 46 5 Tryd.underlying46 Tryd.underlying5 W.heap.size 0 1 1 [V] rfl (fun i hi => by
    obtain rfl : i = 0 := by omega
    simp) 9 Tryd.underlying9
  rw [h]
  congr 2
  apply ba_ext
  subst hV
  simp [strOfNums]

theorem low_at {c : UInt8} {C : Int} (HC : Hid ((c.toNat : Int) = C)) (h1 : 65 ≤ C) (h2 : C ≤ 90) : C + 32 = ((Pl.low c).toNat : Int) := by
  have := HC.out
  unfold Pl.low
  rw [if_pos (by omega), UInt8.toNat_add]
  have e : (32 : UInt8).toNat = 32 := rfl
  rw [e]
  omega
theorem low_not {c : UInt8} {C : Int} (HC : Hid ((c.toNat : Int) = C)) (h : C < 65 ∨ 90 < C) : C = ((Pl.low c).toNat : Int) := by
  have := HC.out
  unfold Pl.low
  rw [if_neg (by omega)]
  omega

set_option maxHeartbeats 1000000 in
set_option maxRecDepth 100000 in
theorem lower_any (s : ByteArray) (w : World) (hs : s.size ≤ 400) :
    Calls Tryd.prog 16 #[.string s] w fun e w' => ∃ L : ByteArray, e = .returned (.string L) ∧ L.data.toList = s.data.toList.map Pl.low ∧ Below w.heap.size w w' := by
  go_enter Tryd.func16, Tryd.ntmps16
  go_wp2
  go_loopw [3, 4] (fun v3 v4 wr => ∃ (k : Nat) (acc : ByteArray), k ≤ s.size ∧ v4 = .int .i64 k ∧ v3 = .string acc ∧ acc.size ≤ k ∧ Hid (acc.data.toList = (s.data.toList.take k).map Pl.low) ∧ Below w.heap.size w wr) (fun _ i _ => s.size - (intOf i).toNat)
  case atStart => exact ⟨0, ⟨#[]⟩, by omega, rfl, rfl, Nat.le_refl _, rfl, Below.refl _ _⟩
  case round =>
    obtain ⟨k, acc, hk, rfl, rfl, ha, HA, hb⟩ := hrel
    by_cases hlt : k < s.size
    · obtain ⟨C, hC⟩ : ∃ C : Int, ((s[k]).toNat : Int) = C := ⟨_, rfl⟩
      have h0 : 0 ≤ C := by omega
      have h1 : C < 256 := by have := UInt8.toNat_lt s[k]; omega
      have HC := Lib.hid hC
      have H1 : Hid ((acc ++ ⟨#[Pl.low s[k]]⟩).data.toList = (s.data.toList.take (k + 1)).map Pl.low) := by
        show _ = _
        have e : s.data.toList.take (k + 1) = s.data.toList.take k ++ [s[k]] := by
          rw [List.take_succ_eq_append_getElem (by simpa using hlt)]
          rfl
        rw [e, List.map_append, ← HA.out]
        simp
      have hz : (⟨#[Pl.low s[k]]⟩ : ByteArray).size = 1 := rfl
      rcases (by omega : C < 65 ∨ (65 ≤ C ∧ C ≤ 90) ∨ 90 < C) with q | ⟨q, q'⟩ | q
      · have hcv := conv_one wr (Pl.low s[k]) C (low_not HC (Or.inl q))
        go_wp2
        go_roundw
        case rel => exact ⟨k + 1, acc ++ ⟨#[Pl.low s[k]]⟩, by omega, by go_num, rfl, by rw [ByteArray.size_append, hz]; omega, H1, hb.alloc hb.size _⟩
        case measure => simp [intOf]; omega
      · have hcv := conv_one wr (Pl.low s[k]) (C + 32) (low_at HC q q')
        go_wp2
        go_roundw
        case rel => exact ⟨k + 1, acc ++ ⟨#[Pl.low s[k]]⟩, by omega, by go_num, rfl, by rw [ByteArray.size_append, hz]; omega, H1, hb.alloc hb.size _⟩
        case measure => simp [intOf]; omega
      · have hcv := conv_one wr (Pl.low s[k]) C (low_not HC (Or.inr q))
        go_wp2
        go_roundw
        case rel => exact ⟨k + 1, acc ++ ⟨#[Pl.low s[k]]⟩, by omega, by go_num, rfl, by rw [ByteArray.size_append, hz]; omega, H1, hb.alloc hb.size _⟩
        case measure => simp [intOf]; omega
    · obtain rfl : k = s.size := by omega
      have H1 : Hid (acc.data.toList = s.data.toList.map Pl.low) := by
        have := HA.out
        rw [List.take_of_length_le (by simp)] at this
        exact this
      clear HA
      go_wp2
      go_ret
      exact ⟨acc, rfl, H1.out, hb⟩
end Go.Proofs.YtkfbpofjalcahaaDoor
