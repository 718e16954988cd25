/- DERIVED. The contract of the reference's value (function 18): what the plain function 'Pl.value' says. -/
import Derived.Test.YtkfbpofjalcahaaDoorRefW
import Derived.Deep.DeepCutAuto
import Derived.Deep.CutBlock
namespace Go.Proofs.YtkfbpofjalcahaaDoor
open Go Go.RowKit

theorem head_cons (T : ByteArray) (h : 0 < T.size) : T.data.toList = T[0] :: T.data.toList.drop 1 := by
  have := drop_at T 0 h
  rw [List.drop_zero] at this
  exact this
theorem size_zero {T : ByteArray} (h : T.size = 0) : T.data.toList = [] := List.eq_nil_of_length_eq_zero (by simpa using h)
theorem list_size (T : ByteArray) : T.data.toList.length = T.size := by simp

theorem trimR_snoc (l : List UInt8) (c : UInt8) : Pl.trimR (l ++ [c]) = if c == 48 then Pl.trimR l else l ++ [c] := by
  unfold Pl.trimR
  rw [List.reverse_append, List.reverse_singleton, List.singleton_append, List.dropWhile_cons]
  split
  · rfl
  · simp
theorem trimL_cons (c : UInt8) (l : List UInt8) : Pl.trimL (c :: l) = if c == 48 then Pl.trimL l else c :: l := by
  unfold Pl.trimL
  rw [List.dropWhile_cons]
theorem is48 {c : UInt8} : c = 48 ↔ c.toNat = 48 := by
  constructor
  · rintro rfl; rfl
  · intro h; exact UInt8.toNat_inj.1 h
theorem last_snoc (d : ByteArray) (n : Nat) (h : d.size = n + 1) : d.data.toList = d.data.toList.take n ++ [d[n]'(by omega)] := by
  have := List.take_append_drop n d.data.toList
  rw [drop_at d n (by omega), List.drop_eq_nil_of_le (by simp; omega)] at this
  exact this.symm

def strSize : Value → Nat
  | .string b => b.size
  | _ => 0

def RetV (r : Int × Int) (w : World) (e : Ending) (w' : World) : Prop := e = .returned (.tuple #[.int .i64 r.1, .int .i64 r.2]) ∧ Below w.heap.size w w'
theorem retv_of {r q : Int × Int} {w : World} {a b : Int} (h : Hid (r = q)) (ha : a = q.1) (hb : b = q.2) : RetV r w (.returned (.tuple #[.int .i64 a, .int .i64 b])) w := by
  have := h.out
  subst ha hb this
  exact ⟨rfl, Below.refl _ _⟩

theorem natOf_cons (acc : Nat) (c : UInt8) (r : List UInt8) : Pl.natOf acc (c :: r) = Pl.natOf (acc * 10 + (c.toNat - 48)) r := by conv => lhs; unfold Pl.natOf

theorem u64_mod (a : Int) : IntKind.u64.wrap a = a % 18446744073709551616 := by
  simp [IntKind.wrap, IntKind.signed, IntKind.bits]
theorem neg_u64 {N : Int} (h0 : 0 ≤ N) (h : N ≤ 9223372036854775808) : wrap64 (IntKind.u64.wrap (-N)) = -N := by
  have e2 : wrap64 ((-N) % 18446744073709551616) = -N := by
    unfold wrap64
    omega
  exact (congrArg wrap64 (u64_mod (-N))).trans e2

/-- What is left behind the zeros ahead: the value by its digits. -/
def valR (d : List UInt8) (x : Int) (neg : Bool) : Int × Int :=
  if d = [] then (0, 0) else if x < 0 ∨ 19 < (d.length : Int) + x then (0, 4) else Pl.signed (Pl.natOf 0 (d ++ List.replicate x.toNat 48)) neg
theorem value_R (l : List UInt8) (x : Int) (neg : Bool) : Pl.value l x neg = valR (Pl.trimR (Pl.trimL l)) (x + ((Pl.trimL l).length - (Pl.trimR (Pl.trimL l)).length)) neg := by
  unfold Pl.value valR
  by_cases h : Pl.trimL l = []
  · rw [if_pos h, h]
    rfl
  · rw [if_neg h, if_neg (Pl.trimR_ne h)]

set_option maxHeartbeats 4000000 in
set_option maxRecDepth 100000 in
theorem value_any' (s : ByteArray) (x : Int) (neg : Bool) (w : World) (hs : s.size ≤ 400) (hx0 : -2000000000000 ≤ x) (hx1 : x ≤ 1999999999000) (hd : Hid (∀ c ∈ s.data.toList, Pl.IsDig c)) :
    Calls Tryd.prog 18 #[.string s, .int .i64 x, .bool neg] w (RetV (Pl.value s.data.toList x neg) w) := by
  go_enter Tryd.func18, Tryd.ntmps18
  go_upto_block 0 with (fail)
  go_cut [0] (fun v wc => ∃ D : ByteArray, v = .string D ∧ D.size ≤ 400 ∧ Hid (D.data.toList = Pl.trimL s.data.toList) ∧ w = wc)
  case first =>
    go_wp2
    go_loop [0] (fun v => ∃ d : ByteArray, v = .string d ∧ d.size ≤ 400 ∧ Hid (Pl.trimL d.data.toList = Pl.trimL s.data.toList)) (fun v => strSize v)
    case atStart => exact ⟨s, rfl, hs, rfl⟩
    case round =>
      obtain ⟨d, rfl, hds, HD⟩ := hrel
      by_cases h0 : d.size = 0
      · have H1 : Hid (d.data.toList = Pl.trimL s.data.toList) := by
          have := HD.out
          rw [size_zero h0] at this ⊢
          exact this
        have h1 : d.size ≤ 0 := by omega
        clear h0 HD
        go_wp2
        go_meet
        case rel => exact ⟨d, rfl, hds, H1, rfl⟩
      · have hpos : 0 < d.size := by omega
        have ht := HD.out
        rw [head_cons d hpos, trimL_cons] at ht
        obtain ⟨C, hC⟩ : ∃ C : Int, ((d[0]).toNat : Int) = C := ⟨_, rfl⟩
        clear h0
        by_cases hq : C = 48
        · rw [if_pos (by rw [beq_iff_eq, is48]; omega)] at ht
          have H1 : Hid (Pl.trimL (d.extract 1 d.size).data.toList = Pl.trimL s.data.toList) := by
            show _ = _
            rw [Lib.extract_to_end]
            exact ht
          subst hq
          clear ht HD
          go_wp2
          go_round
          case rel => exact ⟨d.extract 1 d.size, rfl, by simp; omega, H1⟩
          case measure => simp [strSize]; omega
        · rw [if_neg (by rw [beq_iff_eq, is48]; omega), ← head_cons d hpos] at ht
          have H1 := Lib.hid ht
          have n48 : (C == 48) = false := by simpa using hq
          clear ht HD hq
          go_wp2
          go_meet
          case rel => exact ⟨d, rfl, hds, H1, rfl⟩
  case rest =>
    obtain ⟨D, rfl, hDs, HD, rfl⟩ := hcut
    have HG : Hid (∀ c ∈ D.data.toList, Pl.IsDig c) := by
      show ∀ c ∈ _, _
      rw [HD.out]
      exact fun c hc => hd.out c (Pl.trimL_mem hc)
    have HV : Hid (Pl.value s.data.toList x neg = valR (Pl.trimR D.data.toList) (x + ((D.size : Int) - (Pl.trimR D.data.toList).length)) neg) := by
      show _ = _
      rw [value_R, ← HD.out, list_size]
    clear HD hd
    go_upto_block 2 with (fail)
    go_cut [0, 1] (fun v0 v1 wc => ∃ (d : ByteArray) (y : Int), v0 = .string d ∧ v1 = .int .i64 y ∧ d.size ≤ 400 ∧ x ≤ y ∧ y ≤ x + 400 ∧ Hid (Pl.value s.data.toList x neg = valR d.data.toList y neg) ∧ Hid (∀ c ∈ d.data.toList, Pl.IsDig c) ∧ w = wc)
    case first => as_aux_lemma =>
      go_wp2
      go_loop [0, 1] (fun v0 v1 => ∃ d : ByteArray, v0 = .string d ∧ v1 = .int .i64 (x + ((D.size : Int) - d.size)) ∧ d.size ≤ D.size ∧ Hid (Pl.trimR d.data.toList = Pl.trimR D.data.toList) ∧ Hid (∀ c ∈ d.data.toList, Pl.IsDig c)) (fun v _ => strSize v)
      case atStart => exact ⟨D, rfl, by congr 1; omega, Nat.le_refl _, rfl, HG⟩
      case round =>
        obtain ⟨d, rfl, rfl, hdl, HD, HGd⟩ := hrel
        by_cases h0 : d.size = 0
        · have H1 : Hid (Pl.value s.data.toList x neg = valR d.data.toList (x + ((D.size : Int) - d.size)) neg) := by
            have e := HD.out
            rw [size_zero h0] at e
            show _ = _
            rw [HV.out, ← e, size_zero h0, h0]
            rfl
          have h1 : d.size ≤ 0 := by omega
          clear h0 HD HV
          go_wp2
          go_meet
          case rel => exact ⟨d, _, rfl, rfl, by omega, by omega, by omega, H1, HGd, rfl⟩
        · obtain ⟨n, hn⟩ : ∃ n, d.size = n + 1 := ⟨d.size - 1, by omega⟩
          have hsn := last_snoc d n hn
          have ht := HD.out
          rw [hsn, trimR_snoc] at ht
          have hlt : n < d.size := by omega
          obtain ⟨C, hC⟩ : ∃ C : Int, ((d[n]).toNat : Int) = C := ⟨_, rfl⟩
          have hpos : 0 < d.size := by omega
          have hC' : ((d[d.size - 1]'(Nat.sub_lt hpos Nat.one_pos)).toNat : Int) = C := by
            have e : d.size - 1 = n := by omega
            simp only [e]
            exact hC
          by_cases hq : C = 48
          · rw [if_pos (by rw [beq_iff_eq, is48]; omega)] at ht
            have en : d.size - 1 = n := by omega
            have he : (d.extract 0 (d.size - 1)).data.toList = d.data.toList.take n := by rw [en]; simp
            have hes : (d.extract 0 (d.size - 1)).size = d.size - 1 := by simp
            have H1 : Hid (Pl.trimR (d.extract 0 (d.size - 1)).data.toList = Pl.trimR D.data.toList) := by
              show _ = _
              rw [he]
              exact ht
            have H2 : Hid (∀ c ∈ (d.extract 0 (d.size - 1)).data.toList, Pl.IsDig c) := by
              show ∀ c ∈ _, _
              rw [he]
              exact fun c hc => HGd.out c (List.mem_of_mem_take hc)
            have HE := Lib.hid hes
            clear ht HD hsn he hC h0 hn en hes
            subst hq
            go_wp2
            go_round
            case rel => exact ⟨d.extract 0 (d.size - 1), rfl, by congr 1; rw [HE.out]; omega, by rw [HE.out]; omega, H1, H2⟩
            case measure => show (d.extract 0 (d.size - 1)).size < d.size; rw [HE.out]; omega
          · rw [if_neg (by rw [beq_iff_eq, is48]; omega), ← hsn] at ht
            have H1 : Hid (Pl.value s.data.toList x neg = valR d.data.toList (x + ((D.size : Int) - d.size)) neg) := by
              show _ = _
              rw [HV.out, ← ht, list_size]
            have n48 : (C == 48) = false := by simpa using hq
            clear ht HD hsn hC h0 hn HV hq
            go_wp2
            go_meet
            case rel => exact ⟨d, _, rfl, rfl, by omega, by omega, by omega, H1, HGd, rfl⟩
    case rest =>
      obtain ⟨d, y, rfl, rfl, hds, y0, y1, HW, HGd, rfl⟩ := hcut
      clear HG HV
      by_cases h0 : d.size = 0
      · have H1 : Hid (Pl.value s.data.toList x neg = (0, 0)) := by
          show _ = _
          rw [HW.out, size_zero h0]
          rfl
        have h1 : d.size ≤ 0 := by omega
        clear h0 HW
        go_wp2
        go_ret2
        exact retv_of H1 rfl rfl
      · have hpos : 0 < d.size := by omega
        have hne : ¬ d.data.toList = [] := by
          intro h
          have := congrArg List.length h
          rw [list_size] at this
          exact h0 this
        have hv := HW.out
        unfold valR at hv
        rw [if_neg hne, list_size] at hv
        clear h0 hne HW
        by_cases hc : y < 0 ∨ 19 < (d.size : Int) + y
        · rw [if_pos hc] at hv
          have H1 := Lib.hid hv
          clear hv
          rcases (by omega : y < 0 ∨ 19 < y ∨ (0 ≤ y ∧ y ≤ 19 ∧ 19 < (d.size : Int) + y)) with q | q | ⟨q, q', q2⟩
          all_goals
            clear hc
            go_wp2
            go_ret2
            exact retv_of H1 rfl rfl
        · rw [if_neg hc] at hv
          have c0 : 0 ≤ y := by omega
          have c1 : (d.size : Int) + y ≤ 19 := by omega
          have HN := Lib.hid hv
          clear hv hc
          go_upto_block 4 with (fail)
          go_cut [8, 9] (fun v8 _ wc => ∃ N : Nat, v8 = .int .u64 N ∧ N < 10000000000000000000 ∧ Hid (Pl.value s.data.toList x neg = Pl.signed N neg) ∧ w = wc)
          case first => as_aux_lemma =>
            go_wp2
            go_loop [8, 9] (fun v8 v9 => ∃ (i N : Nat), v8 = .int .u64 N ∧ v9 = .int .i64 i ∧ (i : Int) ≤ d.size + y ∧ N < 10000000000000000000 ∧ Hid (N < 10 ^ i) ∧ Hid (Pl.natOf N ((d.data.toList ++ List.replicate y.toNat 48).drop i) = Pl.natOf 0 (d.data.toList ++ List.replicate y.toNat 48))) (fun _ v => 19 - (intOf v).toNat)
            case atStart => exact ⟨0, 0, rfl, rfl, by omega, by omega, by show 0 < 10 ^ 0; decide, rfl⟩
            case round =>
              obtain ⟨i, N, rfl, rfl, hi, hN, HP, HQ⟩ := hrel
              have hl : (d.data.toList ++ List.replicate y.toNat 48).length = d.size + y.toNat := by simp
              by_cases hlt : (i : Int) < d.size + y
              · have hp := HP.out
                have hp18 : 10 ^ i ≤ 10 ^ 18 := Nat.pow_le_pow_right (by omega) (by omega)
                have e18 : (10 : Nat) ^ 18 = 1000000000000000000 := by decide
                have hN2 : N < 1000000000000000000 := by omega
                have hps : 10 ^ (i + 1) = 10 ^ i * 10 := Nat.pow_succ 10 i
                have hdr : (d.data.toList ++ List.replicate y.toNat 48).drop i = (d.data.toList ++ List.replicate y.toNat 48)[i]'(by omega) :: (d.data.toList ++ List.replicate y.toNat 48).drop (i + 1) := List.drop_eq_getElem_cons (by omega)
                have hq := HQ.out
                rw [hdr, natOf_cons] at hq
                by_cases hid : i < d.size
                · have hg : (d.data.toList ++ List.replicate y.toNat 48)[i]'(by omega) = d[i] := by
                    rw [List.getElem_append_left (by simpa using hid)]
                    rfl
                  rw [hg] at hq
                  obtain ⟨g0, g1⟩ := HGd.out d[i] (by
                    have : d[i] = d.data.toList[i]'(by simpa using hid) := rfl
                    rw [this]
                    exact List.getElem_mem _)
                  obtain ⟨C, hC⟩ : ∃ C : Int, ((d[i]).toNat : Int) = C := ⟨_, rfl⟩
                  have f0 : 48 ≤ C := by omega
                  have f1 : C ≤ 57 := by omega
                  have HP1 : Hid (N * 10 + (d[i].toNat - 48) < 10 ^ (i + 1)) := by show _ < _; omega
                  have HN1 : Hid (((N * 10 + (d[i].toNat - 48) : Nat) : Int) = 10 * N + (C - 48)) := by show _ = _; omega
                  have HQ1 := Lib.hid hq
                  clear hq hg hdr hps e18 hp18 hp HP HQ g0 g1 hl HN
                  go_wp2
                  go_round
                  case rel => exact ⟨i + 1, N * 10 + (d[i].toNat - 48), by rw [HN1.out], by go_num, by omega, by have := HN1.out; omega, HP1, HQ1⟩
                  case measure => simp [intOf]; omega
                · have hg : (d.data.toList ++ List.replicate y.toNat 48)[i]'(by omega) = 48 := by
                    rw [List.getElem_append_right (by simp; omega)]
                    simp
                  rw [hg] at hq
                  have h48 : (48 : UInt8).toNat = 48 := rfl
                  rw [h48] at hq
                  have HP1 : Hid (N * 10 + (48 - 48) < 10 ^ (i + 1)) := by show _ < _; omega
                  have HN1 : Hid (((N * 10 + (48 - 48) : Nat) : Int) = 10 * N) := by show _ = _; omega
                  have HQ1 := Lib.hid hq
                  clear hq hg hdr hps e18 hp18 hp HP HQ hl HN h48
                  go_wp2
                  go_round
                  case rel => exact ⟨i + 1, N * 10 + (48 - 48), by rw [HN1.out], by go_num, by omega, by have := HN1.out; omega, HP1, HQ1⟩
                  case measure => simp [intOf]; omega
              · have H1 : Hid (Pl.value s.data.toList x neg = Pl.signed N neg) := by
                  have e := HQ.out
                  rw [List.drop_eq_nil_of_le (by omega)] at e
                  show _ = _
                  rw [HN.out, ← e]
                  rfl
                clear HQ HP HN hl
                go_wp2
                go_meet
                case rel => exact ⟨N, rfl, hN, H1, rfl⟩
          case rest => as_aux_lemma =>
            obtain ⟨M, rfl, hM, HN2, rfl⟩ := hcut
            have hv := HN2.out
            clear HN HN2
            obtain ⟨N, hN⟩ : ∃ N : Int, (M : Int) = N := ⟨_, rfl⟩
            rw [hN] at hv
            rw [hN]
            have hN0 : 0 ≤ N := by omega
            have hN1 : N < 10000000000000000000 := by omega
            clear hN hM M
            unfold Pl.signed at hv
            cases neg with
            | true =>
              by_cases hq : N ≤ 9223372036854775808
              · rw [if_pos ⟨rfl, hq⟩] at hv
                have H1 := Lib.hid hv
                clear hv
                go_wp2
                go_ret2
                exact retv_of H1 (neg_u64 hN0 hq) rfl
              · rw [if_neg (fun k => hq k.2), if_neg (by simp)] at hv
                have H1 := Lib.hid hv
                clear hv
                go_wp2
                go_ret2
                exact retv_of H1 rfl rfl
            | false =>
              by_cases hq : N ≤ 9223372036854775807
              · rw [if_neg (by simp), if_pos ⟨rfl, hq⟩] at hv
                have H1 := Lib.hid hv
                clear hv
                go_wp2
                go_ret2
                exact retv_of H1 rfl rfl
              · rw [if_neg (by simp), if_neg (fun k => hq k.2)] at hv
                have H1 := Lib.hid hv
                clear hv
                go_wp2
                go_ret2
                exact retv_of H1 rfl rfl

theorem value_any (d : ByteArray) (x : Int) (neg : Bool) (w : World) (hs : d.size ≤ 400) (hx0 : -2000000000000 ≤ x) (hx1 : x ≤ 1999999999000) (hd : ∀ c ∈ d.data.toList, Pl.IsDig c) :
    Calls Tryd.prog 18 #[.string d, .int .i64 x, .bool neg] w fun e w' => e = .returned (.tuple #[.int .i64 (Pl.value d.data.toList x neg).1, .int .i64 (Pl.value d.data.toList x neg).2]) ∧ Below w.heap.size w w' :=
  value_any' d x neg w hs hx0 hx1 hd
end Go.Proofs.YtkfbpofjalcahaaDoor
