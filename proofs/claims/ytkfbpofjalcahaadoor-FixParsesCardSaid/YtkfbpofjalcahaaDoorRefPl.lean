/- DERIVED. What the printed functions of the reference (lower, digits, value) come to, in plain words: no program's run in this text. -/
import Derived.Test.YtkfbpofjalcahaaDoorPParsex1
import Derived.Test.YtkfbpofjalcahaaDoorPParsex2
import Derived.Test.YtkfbpofjalcahaaDoorPlv
import Derived.Lib.IndexBytes
namespace Go.Proofs.YtkfbpofjalcahaaDoor
open Go.RowKit Go.Proofs.YtkfbpofjalcahaaDoorW.PrintWords Go.Proofs.YtkfbpofjalcahaaDoorW.PrintLast Go.Proofs.YtkfbpofjalcahaaDoorW.PrintMore Go.Proofs.YtkfbpofjalcahaaDoor.PParse

theorem ba_ext {a b : ByteArray} (h : a.data.toList = b.data.toList) : a = b := by
  obtain ⟨⟨x⟩⟩ := a
  obtain ⟨⟨y⟩⟩ := b
  simp at h
  rw [h]

theorem bt_nat (s : ByteArray) (i : Nat) (h : i < s.size) : bt s i = ((s[i]'h).toNat : Int) := by
  have := bt_at s i (by simpa using h)
  rw [← this]
  rfl

theorem wrap_succ {i n : Nat} (h : i < n) (hn : n ≤ 1000) : wrap64 ((i : Int) + 1) = ((i + 1 : Nat) : Int) := by
  unfold wrap64
  omega

theorem drop_at (s : ByteArray) (i : Nat) (h : i < s.size) : s.data.toList.drop i = s[i] :: s.data.toList.drop (i + 1) := by
  rw [List.drop_eq_getElem_cons (by simpa using h)]
  rfl

def dig (c : UInt8) : Bool := decide (48 ≤ c.toNat ∧ c.toNat ≤ 57)

theorem digits_l0 (s : ByteArray) (hs : s.size ≤ 400) (d : Nat) : ∀ i : Nat, i + d = s.size → Ev (fun k => odometerref01_digits.l0 k s i) ((i + ((s.data.toList.drop i).takeWhile dig).length : Nat) : Int) := by
  induction d with
  | zero =>
    intro i hi
    refine Ev.step (f := fun _ => some ((i : Nat) : Int)) (fun k => ?_) ?_
    · simp only [odometerref01_digits.l0]
      rw [if_neg (by omega)]
    · rw [List.drop_eq_nil_of_le (by simp; omega)]
      exact Ev.now _
  | succ d ih =>
    intro i hi
    have hlt : i < s.size := by omega
    have hb := bt_nat s i hlt
    rw [drop_at s i hlt]
    by_cases hd : 48 ≤ (s[i]).toNat ∧ (s[i]).toNat ≤ 57
    · refine Ev.step (f := fun k => odometerref01_digits.l0 k s ((i + 1 : Nat) : Int)) (fun k => ?_) ?_
      · simp only [odometerref01_digits.l0]
        rw [if_pos (by omega), if_pos (by omega), if_pos (by omega), if_pos (by omega), wrap_succ hlt (by omega)]
      · have := ih (i + 1) (by omega)
        rw [List.takeWhile_cons, if_pos (by simp [dig, hd]), List.length_cons]
        rw [show i + ((List.takeWhile dig (List.drop (i + 1) s.data.toList)).length + 1) = i + 1 + (List.takeWhile dig (List.drop (i + 1) s.data.toList)).length from by omega]
        exact this
    · refine Ev.step (f := fun _ => some ((i : Nat) : Int)) (fun k => ?_) ?_
      · simp only [odometerref01_digits.l0]
        rw [if_pos (by omega), if_pos (by omega)]
        by_cases h1 : bt s i ≥ 48
        · rw [if_pos h1, if_neg (by omega)]
        · rw [if_neg h1]
      · rw [List.takeWhile_cons, if_neg (by simp [dig, hd])]
        exact Ev.now _

theorem digits_ev (s : ByteArray) (hs : s.size ≤ 400) : Ev (fun k => odometerref01_digits.f k s) (((s.data.toList.takeWhile dig).length : Nat) : Int) := by
  have := digits_l0 s hs s.size 0 (by omega)
  simpa [odometerref01_digits.f] using this

theorem strOne (b : UInt8) : (Go.strOfNums [(b.toNat : Int)]).data.toList = [b] := by simp [Go.strOfNums]

theorem low_at {c : UInt8} (h1 : 65 ≤ c.toNat) (h2 : c.toNat ≤ 90) : (((c.toNat : Int) + 32) % 256) = ((Pl.low c).toNat : Int) := by
  unfold Pl.low
  rw [if_pos ⟨h1, h2⟩, UInt8.toNat_add]
  have e : (32 : UInt8).toNat = 32 := rfl
  rw [e]
  omega
theorem low_not {c : UInt8} (h : ¬ (65 ≤ c.toNat ∧ c.toNat ≤ 90)) : Pl.low c = c := by
  unfold Pl.low
  rw [if_neg h]

theorem lower_l0 (s : ByteArray) (hs : s.size ≤ 400) (d : Nat) : ∀ (i : Nat) (acc : ByteArray), i + d = s.size → acc.size = i →
    Ev (fun k => odometerref01_lower.l0 k s acc i) ⟨(acc.data.toList ++ (s.data.toList.drop i).map Pl.low).toArray⟩ := by
  induction d with
  | zero =>
    intro i acc hi ha
    refine Ev.step (f := fun _ => some acc) (fun k => ?_) ?_
    · simp only [odometerref01_lower.l0]
      rw [if_neg (by omega)]
    · rw [List.drop_eq_nil_of_le (by simp; omega)]
      simp only [List.map_nil, List.append_nil]
      exact Ev.now _
  | succ d ih =>
    intro i acc hi ha
    have hlt : i < s.size := by omega
    have hb := bt_nat s i hlt
    rw [drop_at s i hlt]
    have key : ∀ b : UInt8, b = Pl.low s[i] → Ev (fun k => odometerref01_lower.l0 k s (acc ++ Go.strOfNums [(b.toNat : Int)]) ((i + 1 : Nat) : Int)) ⟨(acc.data.toList ++ (s[i] :: s.data.toList.drop (i + 1)).map Pl.low).toArray⟩ := fun b hbl => by
      have := ih (i + 1) (acc ++ Go.strOfNums [(b.toNat : Int)]) (by omega) (by rw [ByteArray.size_append, ha]; congr 1)
      have e : (acc ++ Go.strOfNums [(b.toNat : Int)]).data.toList = acc.data.toList ++ [b] := by rw [ByteArray.data_append, Array.toList_append, strOne]
      rw [e, List.append_assoc] at this
      rw [List.map_cons, ← hbl]
      exact this
    have hsz : ∀ b : Int, acc.size + (Go.strOfNums [b]).size ≤ 9223372036854775807 := fun b => by
      have : (Go.strOfNums [b]).size = 1 := rfl
      omega
    by_cases h1 : 65 ≤ (s[i]).toNat ∧ (s[i]).toNat ≤ 90
    · refine Ev.step (fun k => ?_) (key (Pl.low s[i]) rfl)
      simp only [odometerref01_lower.l0, Option.bind_some]
      rw [if_pos (by omega), if_pos (by omega), if_pos (by omega), if_pos (by omega), if_pos (hsz _), wrap_succ hlt (by omega), hb, low_at h1.1 h1.2]
    · refine Ev.step (fun k => ?_) (key s[i] (low_not h1).symm)
      simp only [odometerref01_lower.l0, Option.bind_some]
      rw [if_pos (by omega), if_pos (by omega)]
      by_cases h2 : bt s i ≥ 65
      · rw [if_pos h2, if_neg (by omega), if_pos (hsz _), wrap_succ hlt (by omega), hb]
      · rw [if_neg h2, if_pos (hsz _), wrap_succ hlt (by omega), hb]

theorem lower_ev (s : ByteArray) (hs : s.size ≤ 400) : Ev (fun k => odometerref01_lower.f k s) ⟨(s.data.toList.map Pl.low).toArray⟩ := by
  have := lower_l0 s hs s.size 0 ⟨#[]⟩ (by omega) rfl
  simpa [odometerref01_lower.f] using this


/-! ### value -/
theorem natOf_append : ∀ (a : List UInt8) (acc : Nat) (b : List UInt8), Pl.natOf acc (a ++ b) = Pl.natOf (Pl.natOf acc a) b
  | [], _, _ => rfl
  | _ :: a, _, b => natOf_append a _ b

theorem wrap_in {a : Int} (h0 : -9000000000000000000 ≤ a) (h1 : a ≤ 9000000000000000000) : wrap64 a = a := by
  unfold wrap64
  omega

theorem u64_in {a : Int} (h0 : 0 ≤ a) (h1 : a < 18446744073709551616) : Go.IntKind.u64.wrap a = a := by
  simp [Go.IntKind.wrap, Go.IntKind.signed, Go.IntKind.bits]
  omega

theorem value_j6 (neg : Bool) (n : Int) (h0 : 0 ≤ n) (h1 : n < 18446744073709551616) :
    Ev (fun k => odometerref01_value.j6 k neg n (decide (neg = true ∧ n ≤ 9223372036854775808))) (Pl.signed n neg) := by
  cases neg with
  | true =>
    by_cases h : n ≤ 9223372036854775808
    · refine Ev.step (f := fun _ => some (-n, 0)) (fun k => ?_) ?_
      · simp only [odometerref01_value.j6]
        rw [if_pos (by simpa using h)]
        congr 2
        simp [Go.IntKind.wrap, Go.IntKind.signed, Go.IntKind.bits]
        unfold wrap64
        omega
      · unfold Pl.signed
        rw [if_pos ⟨rfl, h⟩]
        exact Ev.now _
    · refine Ev.step (f := fun _ => some (0, 4)) (fun k => ?_) ?_
      · simp only [odometerref01_value.j6]
        rw [if_neg (by simpa using h), if_pos trivial]
      · unfold Pl.signed
        rw [if_neg (fun k => h k.2), if_neg (by simp)]
        exact Ev.now _
  | false =>
    by_cases h : n ≤ 9223372036854775807
    · refine Ev.step (f := fun _ => some (n, 0)) (fun k => ?_) ?_
      · simp only [odometerref01_value.j6]
        rw [if_neg (by simp), if_neg (by simp), if_pos (by omega), wrap64]
        congr 2
        omega
      · unfold Pl.signed
        rw [if_neg (by simp), if_pos ⟨rfl, h⟩]
        exact Ev.now _
    · refine Ev.step (f := fun _ => some (0, 4)) (fun k => ?_) ?_
      · simp only [odometerref01_value.j6]
        rw [if_neg (by simp), if_neg (by simp), if_neg (by omega)]
      · unfold Pl.signed
        rw [if_neg (by simp), if_neg (fun k => h k.2)]
        exact Ev.now _

/-- The loop over the digits and the zeros behind them. -/
theorem value_l2 (d : ByteArray) (x : Int) (neg : Bool) (hd : ∀ c ∈ d.data.toList, Pl.IsDig c) (hx0 : 0 ≤ x) (hx : (d.size : Int) + x ≤ 19) (m : Nat) : ∀ (i n : Nat), (i : Int) + m = d.size + x → n < 10 ^ i →
    Ev (fun k => odometerref01_value.l2 k d x neg n i) (Pl.signed (Pl.natOf n ((d.data.toList ++ List.replicate x.toNat 48).drop i)) neg) := by
  have hwx : wrap64 ((d.size : Int) + x) = d.size + x := wrap_in (by omega) (by omega)
  have hl : (d.data.toList ++ List.replicate x.toNat 48).length = d.size + x.toNat := by simp
  have e18 : (10 : Nat) ^ 18 = 1000000000000000000 := by decide
  have e19 : (10 : Nat) ^ 19 = 10000000000000000000 := by decide
  induction m with
  | zero =>
    intro i n hi hn
    have hn19 : 10 ^ i ≤ 10 ^ 19 := Nat.pow_le_pow_right (by omega) (by omega)
    refine Ev.step (f := fun k => odometerref01_value.j6 k neg (n : Int) (decide (neg = true ∧ (n : Int) ≤ 9223372036854775808))) (fun k => ?_) ?_
    · simp only [odometerref01_value.l2]
      rw [hwx, if_neg (by omega)]
      cases neg <;> simp
    · rw [List.drop_eq_nil_of_le (by omega)]
      exact value_j6 neg n (by omega) (by omega)
  | succ m ih =>
    intro i n hi hn
    have hlt : i < d.size + x.toNat := by omega
    have hn18 : 10 ^ i ≤ 10 ^ 18 := Nat.pow_le_pow_right (by omega) (by omega)
    have hp : 10 ^ (i + 1) = 10 ^ i * 10 := Nat.pow_succ 10 i
    have hw : wrap64 ((i : Int) + 1) = ((i + 1 : Nat) : Int) := by unfold wrap64; omega
    have hdr : (d.data.toList ++ List.replicate x.toNat 48).drop i = (d.data.toList ++ List.replicate x.toNat 48)[i]'(by omega) :: (d.data.toList ++ List.replicate x.toNat 48).drop (i + 1) := List.drop_eq_getElem_cons (by omega)
    rw [hdr]
    unfold Pl.natOf
    have hu : Go.IntKind.u64.wrap (10 * (n : Int)) = 10 * n := u64_in (by omega) (by omega)
    by_cases hc : i < d.size
    · have hb := bt_nat d i hc
      have hg : (d.data.toList ++ List.replicate x.toNat 48)[i]'(by omega) = d[i] := by
        rw [List.getElem_append_left (by simpa using hc)]
        rfl
      rw [hg]
      have hdi := hd d[i] (by
        have : d[i] = d.data.toList[i]'(by simpa using hc) := rfl
        rw [this]
        exact List.getElem_mem _)
      obtain ⟨hd1, hd2⟩ := hdi
      refine Ev.step (fun k => ?_) (ih (i + 1) (n * 10 + (d[i].toNat - 48)) (by omega) (by omega))
      simp only [odometerref01_value.l2]
      rw [hwx, if_pos (by omega), if_pos (by omega), if_pos (by omega), hu, hw, hb, u64_in (by omega) (by omega)]
      congr 1
      omega
    · have hg : (d.data.toList ++ List.replicate x.toNat 48)[i]'(by omega) = 48 := by
        rw [List.getElem_append_right (by simp; omega)]
        simp
      rw [hg]
      have h48 : (48 : UInt8).toNat = 48 := rfl
      refine Ev.step (fun k => ?_) (ih (i + 1) (n * 10 + ((48 : UInt8).toNat - 48)) (by omega) (by rw [h48]; omega))
      simp only [odometerref01_value.l2]
      rw [hwx, if_pos (by omega), if_neg (by omega), hu, hw]
      congr 1
      rw [h48]
      omega

theorem value_j3 (d : ByteArray) (x : Int) (neg : Bool) (hs : d.size ≤ 400) (hx0 : -2000000000000 ≤ x) (hx1 : x ≤ 2000000000000) (hd : ∀ c ∈ d.data.toList, Pl.IsDig c) :
    Ev (fun k => odometerref01_value.j3 k d x neg) (if d.data.toList = [] then (0, 0) else if x < 0 ∨ 19 < (d.data.toList.length : Int) + x then (0, 4) else Pl.signed (Pl.natOf 0 (d.data.toList ++ List.replicate x.toNat 48)) neg) := by
  have hl : d.data.toList.length = d.size := by simp
  by_cases h0 : d.data.toList = []
  · rw [if_pos h0]
    refine Ev.step (f := fun _ => some (0, 0)) (fun k => ?_) (Ev.now _)
    simp only [odometerref01_value.j3]
    rw [if_pos (by rw [← hl, h0]; rfl)]
  · rw [if_neg h0]
    have hpos : 0 < d.size := by
      rw [← hl]
      exact List.length_pos_iff.2 h0
    have hwx : wrap64 ((d.size : Int) + x) = d.size + x := wrap_in (by omega) (by omega)
    by_cases hc : x < 0 ∨ 19 < (d.data.toList.length : Int) + x
    · rw [if_pos hc]
      refine Ev.step (f := fun k => odometerref01_value.j4 k d x neg true) (fun k => ?_) (Ev.step (f := fun _ => some (0, 4)) (fun k => ?_) (Ev.now _))
      · simp only [odometerref01_value.j3]
        rw [if_neg (by omega)]
        by_cases h1 : x < 0
        · rw [if_pos h1]
        · rw [if_neg h1]
          by_cases h2 : x > 19
          · rw [if_pos h2]
          · rw [if_neg h2, hwx, decide_eq_true (by omega)]
      · simp only [odometerref01_value.j4]
        rw [if_pos trivial]
    · rw [if_neg hc]
      refine Ev.step (f := fun k => odometerref01_value.j4 k d x neg false) (fun k => ?_) (Ev.step (f := fun k => odometerref01_value.l2 k d x neg 0 0) (fun k => ?_) ?_)
      · simp only [odometerref01_value.j3]
        rw [if_neg (by omega), if_neg (by omega), if_neg (by omega), hwx, decide_eq_false (by omega)]
      · simp only [odometerref01_value.j4]
        rw [if_neg (by simp)]
      · have := value_l2 d x neg hd (by omega) (by omega) (d.size + x.toNat) 0 0 (by omega) (by decide)
        simpa using this

theorem trimR_snoc (l : List UInt8) (c : UInt8) : Pl.trimR (l ++ [c]) = if c == 48 then Pl.trimR l else l ++ [c] := by
  unfold Pl.trimR
  rw [List.reverse_append, List.reverse_singleton, List.singleton_append, List.dropWhile_cons]
  split
  · rfl
  · simp

theorem value_l1 (neg : Bool) (n : Nat) : ∀ (d : ByteArray) (x : Int), d.size = n → n ≤ 400 → -2000000000000 ≤ x → x + n ≤ 2000000000000 → (∀ c ∈ d.data.toList, Pl.IsDig c) →
    Ev (fun k => odometerref01_value.l1 k d x neg) (if Pl.trimR d.data.toList = [] then (0, 0) else if x + (d.data.toList.length - (Pl.trimR d.data.toList).length) < 0 ∨ 19 < ((Pl.trimR d.data.toList).length : Int) + (x + (d.data.toList.length - (Pl.trimR d.data.toList).length)) then (0, 4) else Pl.signed (Pl.natOf 0 (Pl.trimR d.data.toList ++ List.replicate (x + (d.data.toList.length - (Pl.trimR d.data.toList).length)).toNat 48)) neg) := by
  induction n with
  | zero =>
    intro d x hn _ hx0 hx1 hd
    have h0 : d.data.toList = [] := List.eq_nil_of_length_eq_zero (by simpa using hn)
    refine Ev.step (f := fun k => odometerref01_value.j3 k d x neg) (fun k => ?_) ?_
    · simp only [odometerref01_value.l1]
      rw [if_neg (by omega)]
    · have := value_j3 d x neg (by omega) hx0 (by omega) hd
      rw [h0] at this ⊢
      simpa [Pl.trimR] using this
  | succ n ih =>
    intro d x hn h4 hx0 hx1 hd
    have hw : wrap64 ((d.size : Int) - 1) = (n : Nat) := by unfold wrap64; omega
    have hb := bt_nat d n (by omega)
    have hlen : d.data.toList.length = n + 1 := by simpa using hn
    have hsplit : d.data.toList = d.data.toList.take n ++ [d[n]'(by omega)] := by
      have := List.take_append_drop n d.data.toList
      rw [drop_at d n (by omega), List.drop_eq_nil_of_le (by omega)] at this
      exact this.symm
    by_cases hc : d[n]'(by omega) = 48
    · have he : (d.extract 0 n).data.toList = d.data.toList.take n := by
        simp
      have hes : (d.extract 0 n).size = n := by
        have := congrArg List.length he
        simp at this
        simp
        omega
      refine Ev.step (f := fun k => odometerref01_value.l1 k (d.extract 0 n) (x + 1) neg) (fun k => ?_) ?_
      · simp only [odometerref01_value.l1]
        rw [hw, if_pos (by omega), if_pos (by omega), if_pos (by omega), hb, hc, if_pos (by rfl), if_pos (by omega), wrap_in (a := x + 1) (by omega) (by omega)]
        rfl
      · have := ih (d.extract 0 n) (x + 1) hes (by omega) (by omega) (by omega) (by rw [he]; exact fun c hc => hd c (List.mem_of_mem_take hc))
        have hT : Pl.trimR d.data.toList = Pl.trimR (d.data.toList.take n) := by
          conv => lhs; rw [hsplit]
          rw [trimR_snoc, hc]
          rfl
        rw [he] at this
        rw [hT]
        have e1 : x + 1 + (((d.data.toList.take n).length : Int) - (Pl.trimR (d.data.toList.take n)).length) = x + ((d.data.toList.length : Int) - (Pl.trimR (d.data.toList.take n)).length) := by
          rw [List.length_take]
          omega
        rw [e1] at this
        exact this
    · refine Ev.step (f := fun k => odometerref01_value.j3 k d x neg) (fun k => ?_) ?_
      · simp only [odometerref01_value.l1]
        rw [hw, if_pos (by omega), if_pos (by omega), if_pos (by omega), hb, if_neg]
        intro h
        apply hc
        apply UInt8.toNat_inj.1
        show _ = 48
        omega
      · have hT : Pl.trimR d.data.toList = d.data.toList := by
          conv => lhs; rw [hsplit]
          rw [trimR_snoc, if_neg (by simpa using hc), ← hsplit]
        have := value_j3 d x neg (by omega) hx0 (by omega) hd
        rw [hT]
        simpa using this

theorem value_l0 (neg : Bool) (x : Int) (n : Nat) : ∀ (d : ByteArray), d.size = n → n ≤ 400 → -2000000000000 ≤ x → x + n ≤ 2000000000000 → (∀ c ∈ d.data.toList, Pl.IsDig c) →
    Ev (fun k => odometerref01_value.l0 k d x neg) (Pl.value d.data.toList x neg) := by
  have last : ∀ d : ByteArray, d.size ≤ 400 → -2000000000000 ≤ x → x + d.size ≤ 2000000000000 → (∀ c ∈ d.data.toList, Pl.IsDig c) → Pl.trimL d.data.toList = d.data.toList → Ev (fun k => odometerref01_value.l1 k d x neg) (Pl.value d.data.toList x neg) := by
    intro d h4 h0 h1 hd hT
    have := value_l1 neg d.size d x rfl h4 h0 h1 hd
    unfold Pl.value
    rw [hT]
    by_cases hz : d.data.toList = []
    · rw [if_pos hz]
      rw [hz] at this
      simpa [Pl.trimR] using this
    · rw [if_neg hz]
      have hz' : Pl.trimR d.data.toList ≠ [] := by
        have := Pl.trimR_ne (ds := d.data.toList) (by rw [hT]; exact hz)
        rwa [hT] at this
      rw [if_neg hz'] at this
      exact this
  induction n with
  | zero =>
    intro d hn h4 h0 h1 hd
    have hz : d.data.toList = [] := List.eq_nil_of_length_eq_zero (by simpa using hn)
    refine Ev.step (f := fun k => odometerref01_value.j1 k d x neg) (fun k => ?_) (Ev.step (f := fun k => odometerref01_value.l1 k d x neg) (fun k => ?_) ?_)
    · simp only [odometerref01_value.l0]
      rw [if_neg (by omega)]
    · simp only [odometerref01_value.j1]
    · exact last d (by omega) h0 (by omega) hd (by rw [hz]; rfl)
  | succ n ih =>
    intro d hn h4 h0 h1 hd
    have hb := bt_nat d 0 (by omega)
    have hcons : d.data.toList = d[0]'(by omega) :: d.data.toList.drop 1 := by
      have := drop_at d 0 (by omega)
      rw [List.drop_zero] at this
      exact this
    by_cases hc : d[0]'(by omega) = 48
    · have he : (d.extract 1 d.size).data.toList = d.data.toList.drop 1 := Lib.extract_to_end d 1
      have hes : (d.extract 1 d.size).size = n := by
        have := congrArg List.length he
        simp at this
        simp
        omega
      refine Ev.step (f := fun k => odometerref01_value.l0 k (d.extract 1 d.size) x neg) (fun k => ?_) ?_
      · simp only [odometerref01_value.l0]
        rw [if_pos (by omega), if_pos (by omega), if_pos, if_pos (by omega)]
        rw [show (0 : Int) = ((0 : Nat) : Int) from rfl, hb, hc]
        rfl
      · have := ih (d.extract 1 d.size) hes (by omega) h0 (by omega) (by rw [he]; exact fun c hc => hd c (List.mem_of_mem_drop hc))
        rw [he] at this
        have hT : Pl.trimL d.data.toList = Pl.trimL (d.data.toList.drop 1) := by
          conv => lhs; rw [hcons]
          unfold Pl.trimL
          rw [List.dropWhile_cons, if_pos (by rw [hc]; rfl)]
        unfold Pl.value at this ⊢
        rw [hT]
        exact this
    · refine Ev.step (f := fun k => odometerref01_value.j1 k d x neg) (fun k => ?_) (Ev.step (f := fun k => odometerref01_value.l1 k d x neg) (fun k => ?_) ?_)
      · simp only [odometerref01_value.l0]
        rw [if_pos (by omega), if_pos (by omega), if_neg]
        rw [show (0 : Int) = ((0 : Nat) : Int) from rfl, hb]
        intro h
        apply hc
        apply UInt8.toNat_inj.1
        show _ = 48
        omega
      · simp only [odometerref01_value.j1]
      · refine last d (by omega) h0 (by omega) hd ?_
        conv => lhs; rw [hcons]
        unfold Pl.trimL
        rw [List.dropWhile_cons, if_neg (by simpa using hc), ← hcons]

theorem value_ev (d : ByteArray) (x : Int) (neg : Bool) (hs : d.size ≤ 400) (hx0 : -2000000000000 ≤ x) (hx1 : x ≤ 1999999999000) (hd : ∀ c ∈ d.data.toList, Pl.IsDig c) :
    Ev (fun k => odometerref01_value.f k d x neg) (Pl.value d.data.toList x neg) :=
  value_l0 neg x d.size d rfl hs hx0 (by omega) hd

end Go.Proofs.YtkfbpofjalcahaaDoor
