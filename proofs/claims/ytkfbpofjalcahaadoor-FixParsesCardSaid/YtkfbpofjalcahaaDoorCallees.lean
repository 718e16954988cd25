/- DERIVED. The contracts of the functions that fix.Parse calls in Go's library (TrimLeft, TrimRight, Repeat, ParseUint at the arguments that it hands them), and of fix.signed. -/
import Derived.Test.YtkfbpofjalcahaaDoorProg
import Derived.Test.YtkfbpofjalcahaaDoorPlv
import Derived.Test.YtkfbpofjalcahaaDoorShelf
import Derived.WalkKit
import Derived.WalkLawsBesides
import Derived.Lib.Hide
import Derived.Lib.ConvBytes
import Derived.Outline
namespace Go.Proofs.YtkfbpofjalcahaaDoor
open Go Go.RowKit Go.Lib

theorem trimL_any (d : ByteArray) (w : World) :
    Calls Tryd.prog 11 #[.string d, .string ⟨#[48]⟩] w fun e w' => ∃ D : ByteArray, e = .returned (.string D) ∧ D.data.toList = Pl.trimL d.data.toList ∧ w = w' :=
  (Tryd.strings_TrimLeft_one d 48 (by decide) w).mono fun _ _ ⟨he, hw⟩ => ⟨_, he, by simp [Pl.trimL, Lib.trimLeftB], hw.symm⟩

theorem trimR_any (d : ByteArray) (w : World) (hd : d.size ≤ 400) :
    Calls Tryd.prog 12 #[.string d, .string ⟨#[48]⟩] w fun e w' => ∃ D : ByteArray, e = .returned (.string D) ∧ D.data.toList = Pl.trimR d.data.toList ∧ w = w' :=
  (Tryd.strings_TrimRight_one d 48 (by decide) w (by omega)).mono fun _ _ ⟨he, hw⟩ => ⟨_, he, by simp [Pl.trimR, Lib.trimRightB], hw.symm⟩

theorem rep_one : ∀ c : Nat, Lib.repeatL [48] c = List.replicate c 48
  | 0 => rfl
  | c + 1 => by simp [Lib.repeatL, rep_one c, List.replicate_succ]

theorem repeat_any (z : Int) (w : World) (h0 : 0 ≤ z) (h1 : z ≤ 19) :
    Calls Tryd.prog 14 #[.string ⟨#[48]⟩, .int .i64 z] w fun e w' => ∃ R : ByteArray, e = .returned (.string R) ∧ R.data.toList = List.replicate z.toNat 48 ∧ Below w.heap.size w w' := by
  obtain ⟨c, rfl⟩ := Int.eq_ofNat_of_zero_le h0
  exact (Tryd.strings_Repeat ⟨#[48]⟩ c w (by omega) (by show 1 * c ≤ _; omega)).mono fun _ _ ⟨he, hw⟩ => ⟨_, he, by simp [rep_one], hw⟩

theorem uint_ok : ∀ (l : List UInt8) (acc k : Nat), (∀ c ∈ l, Pl.IsDig c) → acc < 10 ^ k → k + l.length ≤ 19 → Lib.parseUintM (2 ^ 64 - 1) acc l = .ok (Pl.natOf acc l)
  | [], _, _, _, _, _ => rfl
  | c :: l, acc, k, hd, h, hk => by
    have hc := hd c List.mem_cons_self
    unfold Lib.parseUintM Pl.natOf
    rw [List.length_cons] at hk
    have hp : 10 ^ (k + 1) ≤ 10 ^ 19 := Nat.pow_le_pow_right (by omega) (by omega)
    have hq : acc * 10 + (c.toNat - 48) < 10 ^ (k + 1) := by
      have := hc.2
      rw [Nat.pow_succ]
      omega
    have e19 : (10 : Nat) ^ 19 = 10000000000000000000 := by decide
    have e64 : (2 : Nat) ^ 64 - 1 = 18446744073709551615 := by decide
    have hp' : 10 ^ k ≤ 10 ^ 18 := Nat.pow_le_pow_right (by omega) (by omega)
    have e18 : (10 : Nat) ^ 18 = 1000000000000000000 := by decide
    rw [if_pos (show 48 ≤ c.toNat ∧ c.toNat ≤ 57 from hc), if_neg (by omega), if_neg (by omega)]
    exact uint_ok l _ (k + 1) (fun d hd' => hd d (List.mem_cons_of_mem _ hd')) hq (by omega)

theorem bytesWorld_below' (w : World) (e : TypeId) (s : ByteArray) : Below w.heap.size w (bytesWorld w e s) := by
  refine ⟨?_, ?_, ?_, by rw [bytesWorld_size]; omega, fun k hk => bytesWorld_at_old w e s k hk⟩ <;> simp [bytesWorld, World.freeze, World.alloc, World.drew, -World.alloc_eq, -World.drew_eq]

/-- At a row of at most 19 digits. -/
theorem uint_any (T : ByteArray) (w : World) (h1 : T.data.toList ≠ []) (h2 : T.data.toList.length ≤ 19) (hd : ∀ c ∈ T.data.toList, Pl.IsDig c) :
    Calls Tryd.prog 13 #[.string T, .int .i64 10, .int .i64 64] w fun e w' => e = .returned (.tuple #[.int .u64 (Pl.natOf 0 T.data.toList), .nilIface]) ∧ Below w.heap.size w w' := by
  have hs : T.size = T.data.toList.length := by simp
  refine (Tryd.strconv_ParseUint_10_at64_ok T (by omega) (Pl.natOf 0 T.data.toList) ?_ w).mono fun _ _ ⟨he, hw⟩ => ⟨he, ?_⟩
  · unfold Lib.parseUintB
    rw [if_neg h1]
    exact uint_ok _ 0 0 hd (by decide) (by omega)
  · rcases hw with rfl | rfl
    · exact Below.refl _ _
    · exact bytesWorld_below' _ _ _

theorem ret_two {a b c : Int} (h : a = b) : Ending.returned (.tuple #[.int .i64 a, .int .i64 c]) = .returned (.tuple #[.int .i64 b, .int .i64 c]) := by rw [h]
theorem neg_wrap {n : Int} (h0 : 0 ≤ n) (h1 : n ≤ 9223372036854775808) : wrap64 (-wrap64 n) = -n := by
  unfold wrap64
  omega

set_option maxRecDepth 100000 in
theorem signed_any (n : Int) (b : Bool) (w : World) (h0 : 0 ≤ n) (h1 : n < 18446744073709551616) :
    Calls Tryd.prog 15 #[.int .u64 n, .bool b] w fun e w' => e = .returned (.tuple #[.int .i64 (Pl.signed n b).1, .int .i64 (Pl.signed n b).2]) ∧ w = w' := by
  cases b
  · by_cases h : n ≤ 9223372036854775807
    · have e : Pl.signed n false = (n, 0) := by unfold Pl.signed; rw [if_neg (by simp), if_pos ⟨rfl, h⟩]
      rw [e]
      clear e
      go_enter Tryd.func15, Tryd.ntmps15
      go_wp2
      go_ret2
      exact ⟨rfl, rfl⟩
    · have e : Pl.signed n false = (0, 4) := by unfold Pl.signed; rw [if_neg (by simp), if_neg (fun k => h k.2)]
      rw [e]
      clear e
      go_enter Tryd.func15, Tryd.ntmps15
      go_wp2
      go_ret2
      exact ⟨rfl, rfl⟩
  · by_cases h : n ≤ 9223372036854775808
    · have e : Pl.signed n true = (-n, 0) := by unfold Pl.signed; rw [if_pos ⟨rfl, h⟩]
      rw [e]
      clear e
      go_enter Tryd.func15, Tryd.ntmps15
      go_wp2
      go_ret2
      exact ⟨ret_two (neg_wrap h0 h), rfl⟩
    · have e : Pl.signed n true = (0, 4) := by unfold Pl.signed; rw [if_neg (fun k => h k.2), if_neg (by simp)]
      rw [e]
      clear e
      go_enter Tryd.func15, Tryd.ntmps15
      go_wp2
      go_ret2
      exact ⟨rfl, rfl⟩
end Go.Proofs.YtkfbpofjalcahaaDoor
