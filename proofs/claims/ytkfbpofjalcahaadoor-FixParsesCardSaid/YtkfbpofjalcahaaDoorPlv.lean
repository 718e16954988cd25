/- DERIVED. The plain side of fix.Parse: a row of digits' value at a power of ten, and a text's number. No program in sight. -/
import Derived.Test.YtkfbpofjalcahaaDoorPl
namespace Go.Proofs.YtkfbpofjalcahaaDoor.Pl

def trimL (l : List UInt8) : List UInt8 := l.dropWhile (· == 48)
def trimR (l : List UInt8) : List UInt8 := (l.reverse.dropWhile (· == 48)).reverse

def natOf (acc : Nat) : List UInt8 → Nat
  | [] => acc
  | c :: r => natOf (acc * 10 + (c.toNat - 48)) r

def signed (n : Int) (neg : Bool) : Int × Int :=
  if neg = true ∧ n ≤ 9223372036854775808 then (-n, 0) else if neg = false ∧ n ≤ 9223372036854775807 then (n, 0) else (0, 4)

/-- Digits times ten to a power, in whole numbers. -/
def value (ds : List UInt8) (x : Int) (neg : Bool) : Int × Int :=
  if trimL ds = [] then (0, 0)
  else if x + ((trimL ds).length - (trimR (trimL ds)).length) < 0 ∨ 19 < (trimR (trimL ds)).length + (x + ((trimL ds).length - (trimR (trimL ds)).length)) then (0, 4)
  else signed (natOf 0 (trimR (trimL ds) ++ List.replicate (x + ((trimL ds).length - (trimR (trimL ds)).length)).toNat 48)) neg

/-- A text's number in millionths, and an error. -/
def parse (l : List UInt8) : Int × Int :=
  if word l = true then (0, 4) else match parts l with
  | none => (0, 3)
  | some (neg, ds, x) => value ds (x + 6) neg

def IsDig (c : UInt8) : Prop := 48 ≤ c.toNat ∧ c.toNat ≤ 57

structure Inv (n : Nat) (t : St) : Prop where
  e0 : 0 ≤ t.ex
  e1 : t.ex ≤ 1099511627776
  x0 : -n ≤ t.xe
  x1 : t.xe ≤ 0
  dl : t.ds.length ≤ n
  dg : ∀ c ∈ t.ds, IsDig c

theorem dg_snoc {ds : List UInt8} {c : UInt8} (h : ∀ c ∈ ds, IsDig c) (hc : IsDig c) : ∀ d ∈ ds ++ [c], IsDig d := by
  intro d hd
  rcases List.mem_append.1 hd with h1 | h1
  · exact h d h1
  · rw [List.mem_singleton.1 h1]; exact hc

theorem step_inv {i : Nat} {c : UInt8} {t t' : St} {n : Nat} (h : Inv n t) (hs : step i c t = some t') : Inv (n + 1) t' := by
  obtain ⟨e0, e1, x0, x1, dl, dg⟩ := h
  unfold step at hs
  by_cases c1 : i = 0 ∧ (c.toNat = 43 ∨ c.toNat = 45)
  · rw [if_pos c1] at hs; cases hs; exact ⟨e0, e1, by simp only; omega, x1, by simp only; omega, dg⟩
  rw [if_neg c1] at hs
  by_cases c2 : 48 ≤ c.toNat ∧ c.toNat ≤ 57
  · rw [if_pos c2] at hs
    by_cases c3 : t.pt = 2 ∨ t.pt = 3
    · rw [if_pos c3] at hs; cases hs
      exact ⟨e0, e1, by simp only; omega, by simp only; omega, by simp; omega, dg_snoc dg c2⟩
    rw [if_neg c3] at hs
    by_cases c4 : t.pt = 0 ∨ t.pt = 1
    · rw [if_pos c4] at hs; cases hs
      exact ⟨e0, e1, by simp only; omega, by simp only; omega, by simp; omega, dg_snoc dg c2⟩
    rw [if_neg c4] at hs; cases hs
    exact ⟨by simp only; omega, by simp only; omega, by simp only; omega, x1, by simp only; omega, dg⟩
  rw [if_neg c2] at hs
  by_cases c3 : c.toNat = 46 ∧ t.pt ≤ 1
  · rw [if_pos c3] at hs; cases hs; exact ⟨e0, e1, by simp only; omega, x1, by simp only; omega, dg⟩
  rw [if_neg c3] at hs
  by_cases c4 : (c.toNat = 101 ∨ c.toNat = 69) ∧ t.pt < 4 ∧ 0 < t.ds.length
  · rw [if_pos c4] at hs; cases hs; exact ⟨e0, e1, by simp only; omega, x1, by simp only; omega, dg⟩
  rw [if_neg c4] at hs
  by_cases c5 : (c.toNat = 43 ∨ c.toNat = 45) ∧ t.pt = 4
  · rw [if_pos c5] at hs; cases hs; exact ⟨e0, e1, by simp only; omega, x1, by simp only; omega, dg⟩
  rw [if_neg c5] at hs
  cases hs

theorem run_inv : ∀ (l : List UInt8) (i n : Nat) (t t' : St), Inv n t → run l i t = some t' → Inv (n + l.length) t'
  | [], _, _, _, _, h, hr => by cases hr; exact h
  | c :: l, i, n, t, t', h, hr => by
    unfold run at hr
    cases hs : step i c t with
    | none => rw [hs] at hr; cases hr
    | some u =>
      rw [hs] at hr
      have := run_inv l (i + 1) (n + 1) u t' (step_inv h hs) hr
      rw [List.length_cons, show n + (l.length + 1) = n + 1 + l.length by omega]
      exact this

theorem parts_inv {l : List UInt8} {neg : Bool} {ds : List UInt8} {x : Int} (h : parts l = some (neg, ds, x)) :
    -1099511627776 - l.length ≤ x ∧ x ≤ 1099511627776 ∧ ds.length ≤ l.length ∧ ∀ c ∈ ds, IsDig c := by
  unfold parts at h
  cases hr : run l 0 st0 with
  | none => rw [hr] at h; cases h
  | some t =>
    rw [hr] at h
    simp only at h
    have hi := run_inv l 0 0 st0 t ⟨by simp [st0], by simp [st0], by simp [st0], by simp [st0], by simp [st0], by simp [st0]⟩ hr
    obtain ⟨e0, e1, x0, x1, dl, dg⟩ := hi
    by_cases hc : 0 < t.ds.length ∧ t.pt ≠ 4 ∧ t.pt ≠ 5
    · rw [if_pos hc] at h
      cases h
      refine ⟨?_, ?_, by omega, dg⟩
      · split <;> omega
      · split <;> omega
    · rw [if_neg hc] at h
      cases h

theorem dropWhile_mem {p : UInt8 → Bool} : ∀ {l : List UInt8} {c : UInt8}, c ∈ l.dropWhile p → c ∈ l
  | [], _, h => h
  | a :: l, c, h => by
    rw [List.dropWhile_cons] at h
    by_cases hp : p a = true
    · rw [if_pos hp] at h; exact List.mem_cons_of_mem _ (dropWhile_mem h)
    · rw [if_neg hp] at h; exact h
theorem dropWhile_len (p : UInt8 → Bool) : ∀ l : List UInt8, (l.dropWhile p).length ≤ l.length
  | [] => Nat.le_refl _
  | a :: l => by
    rw [List.dropWhile_cons]
    by_cases hp : p a = true
    · rw [if_pos hp]; have := dropWhile_len p l; simp only [List.length_cons]; omega
    · rw [if_neg hp]; exact Nat.le_refl _
theorem trimL_len (l : List UInt8) : (trimL l).length ≤ l.length := dropWhile_len _ l
theorem trimR_len (l : List UInt8) : (trimR l).length ≤ l.length := by
  unfold trimR
  rw [List.length_reverse]
  have := dropWhile_len (· == 48) l.reverse
  simpa using this
theorem trimL_mem {l : List UInt8} {c : UInt8} (h : c ∈ trimL l) : c ∈ l := dropWhile_mem h
theorem trimR_mem {l : List UInt8} {c : UInt8} (h : c ∈ trimR l) : c ∈ l := by
  unfold trimR at h
  rw [List.mem_reverse] at h
  exact List.mem_reverse.1 (dropWhile_mem h)

theorem dropWhile_ne (p : UInt8 → Bool) : ∀ l : List UInt8, l.dropWhile p ≠ [] → ∃ c r, l.dropWhile p = c :: r ∧ p c = false
  | [], h => absurd rfl h
  | a :: l, h => by
    rw [List.dropWhile_cons] at h ⊢
    by_cases hp : p a = true
    · rw [if_pos hp] at h ⊢; exact dropWhile_ne p l h
    · rw [if_neg hp]; exact ⟨a, l, rfl, by simpa using hp⟩
theorem dropWhile_nil {p : UInt8 → Bool} : ∀ {l : List UInt8}, l.dropWhile p = [] → ∀ c ∈ l, p c = true
  | [], _, _, h => nomatch h
  | a :: l, h, c, hc => by
    rw [List.dropWhile_cons] at h
    by_cases hp : p a = true
    · rw [if_pos hp] at h
      rcases List.mem_cons.1 hc with rfl | hc
      · exact hp
      · exact dropWhile_nil h c hc
    · rw [if_neg hp] at h
      cases h
/-- What is trimmed on the left and not empty is not empty when trimmed on the right. -/
theorem trimR_ne {ds : List UInt8} (h : trimL ds ≠ []) : trimR (trimL ds) ≠ [] := by
  intro e
  obtain ⟨c, r, hc, hp⟩ := dropWhile_ne (· == 48) ds h
  unfold trimR at e
  rw [List.reverse_eq_nil_iff] at e
  have := dropWhile_nil e c (by rw [List.mem_reverse]; unfold trimL; rw [hc]; simp)
  rw [hp] at this
  cases this

theorem natOf_lt : ∀ (l : List UInt8) (acc k : Nat), (∀ c ∈ l, IsDig c) → acc < 10 ^ k → natOf acc l < 10 ^ (k + l.length)
  | [], _, _, _, h => h
  | c :: l, acc, k, hd, h => by
    unfold natOf
    have := natOf_lt l (acc * 10 + (c.toNat - 48)) (k + 1) (fun d hd' => hd d (List.mem_cons_of_mem _ hd')) (by
      have := (hd c List.mem_cons_self).2
      rw [Nat.pow_succ]
      omega)
    rw [List.length_cons, show k + (l.length + 1) = k + 1 + l.length by omega]
    exact this

end Go.Proofs.YtkfbpofjalcahaaDoor.Pl
