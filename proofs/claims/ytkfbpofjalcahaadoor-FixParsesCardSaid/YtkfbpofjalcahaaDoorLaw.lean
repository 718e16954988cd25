/- DERIVED. The contract of the law FixParses (function 3): it returns true, whatever the text. -/
import Derived.Test.YtkfbpofjalcahaaDoorKnown
import Derived.Test.YtkfbpofjalcahaaDoorRef
import Derived.Test.YtkfbpofjalcahaaDoorPlq
namespace Go.Proofs.YtkfbpofjalcahaaDoor
open Go Go.RowKit Go.Lib

set_option maxRecDepth 100000 in
theorem law_any (s : ByteArray) (w : World) :
    Calls Tryd.prog 3 #[.string s] w fun e w' => e = .returned (.bool true) ∧ Below w.heap.size w w' := by
  by_cases hs : s.size ≤ 400
  · obtain ⟨N, E, hN⟩ : ∃ N E, Pl.parse s.data.toList = (N, E) := ⟨_, _, rfl⟩
    have HP : Hid (∀ W, Calls Tryd.prog 5 #[.string s] W fun e w' => e = .returned (.tuple #[.int .i64 N, .int .i64 E]) ∧ Below W.heap.size W w') := fun W =>
      (parse_any s W hs).mono fun e w' ⟨he, hb⟩ => ⟨by rw [he, hN], hb⟩
    have HR : Hid (∀ W, Calls Tryd.prog 6 #[.string s] W fun e w' => e = .returned (.tuple #[.int .i64 N, .int .i64 E]) ∧ Below W.heap.size W w') := fun W =>
      (ref_any s W hs).mono fun e w' ⟨he, hb⟩ => ⟨by rw [he, ← Pl.parse_refp, hN], hb⟩
    clear hN
    go_enter Tryd.func3, Tryd.ntmps3
    go_wp2_with fail
    refine (HP.out _).mono ?_
    rintro e w1 ⟨rfl, hb⟩
    have H1 := Lib.hid hb
    clear hb
    go_wp2_with fail
    refine (HR.out _).mono ?_
    rintro e w2 ⟨rfl, hb⟩
    have H2 := Lib.hid (H1.out.trans (hb.mono H1.out.size))
    clear hb H1
    go_wp2_with fail
    refine (known_any _).mono ?_
    rintro e w3 ⟨rfl, hb⟩
    have H3 := Lib.hid (H2.out.trans (hb.mono H2.out.size))
    clear hb H2
    go_wp2_with fail
    go_ret
    exact ⟨rfl, H3.out⟩
  · have hs' : 400 < s.size := by omega
    clear hs
    go_enter Tryd.func3, Tryd.ntmps3
    go_wp2_with fail
    refine (known_any _).mono ?_
    rintro e w3 ⟨rfl, hb⟩
    have H3 := Lib.hid hb
    clear hb
    go_wp2_with fail
    go_ret
    exact ⟨rfl, H3.out⟩
end Go.Proofs.YtkfbpofjalcahaaDoor
