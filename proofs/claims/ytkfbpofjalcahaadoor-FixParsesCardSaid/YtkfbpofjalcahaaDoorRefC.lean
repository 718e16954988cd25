/- DERIVED. The contracts of the reference's lower, digits and value (functions 16, 17, 18), in plain words, off the printed ones. -/
import Derived.Test.YtkfbpofjalcahaaDoorRefPl
import Derived.Test.YtkfbpofjalcahaaDoorPlr
namespace Go.Proofs.YtkfbpofjalcahaaDoor
open Go Go.RowKit Go.Proofs.YtkfbpofjalcahaaDoorW.PrintWords Go.Proofs.YtkfbpofjalcahaaDoor.PParse

theorem lower_any (s : ByteArray) (w : World) (hs : s.size ≤ 400) :
    Calls Tryd.prog 16 #[.string s] w fun e w' => ∃ L : ByteArray, e = .returned (.string L) ∧ L.data.toList = s.data.toList.map Pl.low ∧ Below w.heap.size w w' := by
  obtain ⟨k, hk⟩ := (lower_ev s hs).rounds
  exact (odometerref01_lower.calls k s _ w hk).mono fun _ _ ⟨he, hw⟩ => ⟨_, he, by simp, hw⟩

theorem digits_any (s : ByteArray) (w : World) (hs : s.size ≤ 400) :
    Calls Tryd.prog 17 #[.string s] w fun e w' => ∃ n : Nat, e = .returned (.int .i64 n) ∧ n = (s.data.toList.takeWhile Pl.isD).length ∧ Below w.heap.size w w' := by
  obtain ⟨k, hk⟩ := (digits_ev s hs).rounds
  exact (odometerref01_digits.calls k s _ w hk).mono fun _ _ ⟨he, hw⟩ => ⟨_, he, rfl, hw.below⟩

theorem value_any (d : ByteArray) (x : Int) (neg : Bool) (w : World) (hs : d.size ≤ 400) (hx0 : -2000000000000 ≤ x) (hx1 : x ≤ 1999999999000) (hd : ∀ c ∈ d.data.toList, Pl.IsDig c) :
    Calls Tryd.prog 18 #[.string d, .int .i64 x, .bool neg] w fun e w' => e = .returned (.tuple #[.int .i64 (Pl.value d.data.toList x neg).1, .int .i64 (Pl.value d.data.toList x neg).2]) ∧ Below w.heap.size w w' := by
  obtain ⟨k, hk⟩ := (value_ev d x neg hs hx0 hx1 hd).rounds
  exact (odometerref01_value.calls k d x neg _ _ w hk).mono fun _ _ ⟨he, hw⟩ => ⟨he, hw.below⟩

end Go.Proofs.YtkfbpofjalcahaaDoor
