/- DERIVED. The contracts of the law's reads, fails and known (functions 7, 8, 4): the chapter's rows hold. -/
import Derived.Test.YtkfbpofjalcahaaDoorParse
namespace Go.Proofs.YtkfbpofjalcahaaDoor
open Go Go.RowKit Go.Lib

set_option maxRecDepth 100000 in
theorem reads_true (s : ByteArray) (n : Int) (w : World) (hs : s.size ≤ 400) (h : Pl.parse s.data.toList = (n, 0)) :
    Calls Tryd.prog 7 #[.string s, .int .i64 n] w fun e w' => e = .returned (.bool true) ∧ Below w.heap.size w w' := by
  have hp := fun W => parse_any s W hs
  have HP : Hid (∀ W, Calls Tryd.prog 5 #[.string s] W fun e w' => e = .returned (.tuple #[.int .i64 n, .int .i64 0]) ∧ Below W.heap.size W w') := fun W =>
    (hp W).mono fun e w' ⟨he, hb⟩ => ⟨by rw [he, h], hb⟩
  clear hp h
  go_enter Tryd.func7, Tryd.ntmps7
  go_wp2_with fail
  refine (HP.out _).mono ?_
  rintro e w1 ⟨rfl, hb⟩
  go_wp2_with fail
  go_ret
  exact ⟨rfl, hb⟩

set_option maxRecDepth 100000 in
theorem fails_true (s : ByteArray) (k : Int) (w : World) (hs : s.size ≤ 400) (h : Pl.parse s.data.toList = (0, k)) :
    Calls Tryd.prog 8 #[.string s, .int .i64 k] w fun e w' => e = .returned (.bool true) ∧ Below w.heap.size w w' := by
  have hp := fun W => parse_any s W hs
  have HP : Hid (∀ W, Calls Tryd.prog 5 #[.string s] W fun e w' => e = .returned (.tuple #[.int .i64 0, .int .i64 k]) ∧ Below W.heap.size W w') := fun W =>
    (hp W).mono fun e w' ⟨he, hb⟩ => ⟨by rw [he, h], hb⟩
  clear hp h
  go_enter Tryd.func8, Tryd.ntmps8
  go_wp2_with fail
  refine (HP.out _).mono ?_
  rintro e w1 ⟨rfl, hb⟩
  go_wp2_with fail
  go_ret
  exact ⟨rfl, hb⟩

theorem k1 : Pl.parse [49, 101, 51] = (1000000000, 0) := by decide +kernel
theorem k2 : Pl.parse [46, 53] = (500000, 0) := by decide +kernel
theorem k3 : Pl.parse [45, 48, 46, 48, 48, 48, 48, 48, 49] = (-1, 0) := by decide +kernel
theorem k4 : Pl.parse [50, 53, 101, 45, 54] = (25, 0) := by decide +kernel
theorem k5 : Pl.parse [48, 101, 57, 57] = (0, 0) := by decide +kernel
theorem k6 : Pl.parse [49, 101, 45, 55] = (0, 4) := by decide +kernel
theorem k7 : Pl.parse [57, 50, 50, 51, 51, 55, 50, 48, 51, 54, 56, 53, 52, 46, 55, 55, 53, 56, 48, 56] = (0, 4) := by decide +kernel
theorem k8 : Pl.parse [43, 73, 110, 102] = (0, 4) := by decide +kernel
theorem k9 : Pl.parse [46] = (0, 3) := by decide +kernel
theorem k10 : Pl.parse [101, 53] = (0, 3) := by decide +kernel
theorem k11 : Pl.parse [49, 101] = (0, 3) := by decide +kernel
theorem k12 : Pl.parse [49, 95, 48] = (0, 3) := by decide +kernel
theorem k13 : Pl.parse [] = (0, 3) := by decide +kernel

set_option maxHeartbeats 1000000 in
set_option maxRecDepth 100000 in
theorem known_any (w : World) : Calls Tryd.prog 4 #[] w fun e w' => e = .returned (.bool true) ∧ Below w.heap.size w w' := by
  have H0 := Lib.hid (Below.refl w.heap.size w)
  go_enter Tryd.func4, Tryd.ntmps4
  go_wp2_with fail
  refine (reads_true _ _ _ (by decide) k1).mono ?_
  rintro e w1 ⟨rfl, hb⟩
  have H1 := Lib.hid (H0.out.trans (hb.mono H0.out.size))
  clear hb H0
  go_wp2_with fail
  refine (reads_true _ _ _ (by decide) k2).mono ?_
  rintro e w2 ⟨rfl, hb⟩
  have H2 := Lib.hid (H1.out.trans (hb.mono H1.out.size))
  clear hb H1
  go_wp2_with fail
  refine (reads_true _ _ _ (by decide) k3).mono ?_
  rintro e w3 ⟨rfl, hb⟩
  have H3 := Lib.hid (H2.out.trans (hb.mono H2.out.size))
  clear hb H2
  go_wp2_with fail
  refine (reads_true _ _ _ (by decide) k4).mono ?_
  rintro e w4 ⟨rfl, hb⟩
  have H4 := Lib.hid (H3.out.trans (hb.mono H3.out.size))
  clear hb H3
  go_wp2_with fail
  refine (reads_true _ _ _ (by decide) k5).mono ?_
  rintro e w5 ⟨rfl, hb⟩
  have H5 := Lib.hid (H4.out.trans (hb.mono H4.out.size))
  clear hb H4
  go_wp2_with fail
  refine (fails_true _ _ _ (by decide) k6).mono ?_
  rintro e w6 ⟨rfl, hb⟩
  have H6 := Lib.hid (H5.out.trans (hb.mono H5.out.size))
  clear hb H5
  go_wp2_with fail
  refine (fails_true _ _ _ (by decide) k7).mono ?_
  rintro e w7 ⟨rfl, hb⟩
  have H7 := Lib.hid (H6.out.trans (hb.mono H6.out.size))
  clear hb H6
  go_wp2_with fail
  refine (fails_true _ _ _ (by decide) k8).mono ?_
  rintro e w8 ⟨rfl, hb⟩
  have H8 := Lib.hid (H7.out.trans (hb.mono H7.out.size))
  clear hb H7
  go_wp2_with fail
  refine (fails_true _ _ _ (by decide) k9).mono ?_
  rintro e w9 ⟨rfl, hb⟩
  have H9 := Lib.hid (H8.out.trans (hb.mono H8.out.size))
  clear hb H8
  go_wp2_with fail
  refine (fails_true _ _ _ (by decide) k10).mono ?_
  rintro e w10 ⟨rfl, hb⟩
  have H10 := Lib.hid (H9.out.trans (hb.mono H9.out.size))
  clear hb H9
  go_wp2_with fail
  refine (fails_true _ _ _ (by decide) k11).mono ?_
  rintro e w11 ⟨rfl, hb⟩
  have H11 := Lib.hid (H10.out.trans (hb.mono H10.out.size))
  clear hb H10
  go_wp2_with fail
  refine (fails_true _ _ _ (by decide) k12).mono ?_
  rintro e w12 ⟨rfl, hb⟩
  have H12 := Lib.hid (H11.out.trans (hb.mono H11.out.size))
  clear hb H11
  go_wp2_with fail
  refine (fails_true _ _ _ (by decide) k13).mono ?_
  rintro e w13 ⟨rfl, hb⟩
  have H13 := Lib.hid (H12.out.trans (hb.mono H12.out.size))
  clear hb H12
  go_wp2_with fail
  go_ret
  exact ⟨rfl, H13.out⟩
end Go.Proofs.YtkfbpofjalcahaaDoor
