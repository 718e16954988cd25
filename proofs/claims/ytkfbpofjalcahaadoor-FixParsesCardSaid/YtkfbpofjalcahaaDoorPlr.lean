/- DERIVED. The reference's number of a text, in plain words, a step a definition. No program in sight. -/
import Derived.Test.YtkfbpofjalcahaaDoorPlv
namespace Go.Proofs.YtkfbpofjalcahaaDoor.Pl

def isD (c : UInt8) : Bool := decide (48 ≤ c.toNat ∧ c.toNat ≤ 57)

def foldE (e : Int) : List UInt8 → Int
  | [] => e
  | c :: r => foldE (min (10 * e + ((c.toNat : Int) - 48)) 1099511627776) r

/-- The exponent's digits. -/
def expoD (dn : Bool) (r : List UInt8) : Option Int :=
  if r = [] ∨ (r.takeWhile isD).length < r.length then none else some (if dn = true then -foldE 0 r else foldE 0 r)
/-- .. behind the mark. -/
def expoS : List UInt8 → Option Int
  | [] => none
  | c :: r => if c.toNat = 43 ∨ c.toNat = 45 then expoD (c.toNat == 45) r else expoD false (c :: r)
def expo : List UInt8 → Option Int
  | [] => some 0
  | c :: r => if c.toNat = 101 ∨ c.toNat = 69 then expoS r else none

def rF (neg : Bool) (a b r : List UInt8) : Int × Int :=
  match expo r with
  | none => (0, 3)
  | some e => value (a ++ b) (e + 6 - b.length) neg
def rE (neg : Bool) (a b r : List UInt8) : Int × Int := if a.length + b.length = 0 then (0, 3) else rF neg a b r
def rD (neg : Bool) (a : List UInt8) : List UInt8 → Int × Int
  | [] => rE neg a [] []
  | c :: r => if c.toNat = 46 then rE neg a (r.takeWhile isD) (r.dropWhile isD) else rE neg a [] (c :: r)
def rC (neg : Bool) (l : List UInt8) : Int × Int := rD neg (l.takeWhile isD) (l.dropWhile isD)
def rB (neg : Bool) (l : List UInt8) : Int × Int := if l.length < 10 ∧ isWord (l.map low) = true then (0, 4) else rC neg l
def minus : List UInt8 → Bool
  | [] => false
  | c :: _ => c.toNat == 45
/-- The reference's answer. -/
def refp (l : List UInt8) : Int × Int := rB (minus l) (unsign l)

theorem foldE_bound : ∀ (r : List UInt8) (e : Int), (∀ c ∈ r, IsDig c) → 0 ≤ e → e ≤ 1099511627776 → 0 ≤ foldE e r ∧ foldE e r ≤ 1099511627776
  | [], _, _, h0, h1 => ⟨h0, h1⟩
  | c :: r, e, hd, h0, h1 => by
    have hc := (hd c List.mem_cons_self).1
    exact foldE_bound r _ (fun d h => hd d (List.mem_cons_of_mem _ h)) (by omega) (by omega)

theorem foldE_snoc : ∀ (r : List UInt8) (e : Int) (c : UInt8), foldE e (r ++ [c]) = min (10 * foldE e r + ((c.toNat : Int) - 48)) 1099511627776
  | [], _, _ => rfl
  | _ :: r, _, c => foldE_snoc r _ c

theorem takeWhile_dig {l : List UInt8} : ∀ c ∈ l.takeWhile isD, IsDig c := by
  intro c hc
  have := List.all_takeWhile (p := isD) (l := l)
  rw [List.all_eq_true] at this
  have h := this c hc
  exact (of_decide_eq_true h : 48 ≤ c.toNat ∧ c.toNat ≤ 57)

/-- Where all are digits: each is one. -/
theorem all_dig : ∀ {r : List UInt8}, ¬ (r.takeWhile isD).length < r.length → ∀ c ∈ r, IsDig c
  | [], _, _, h => nomatch h
  | a :: r, h, c, hc => by
    rw [List.takeWhile_cons] at h
    by_cases ha : isD a = true
    · rw [if_pos ha, List.length_cons, List.length_cons] at h
      rcases List.mem_cons.1 hc with rfl | hc
      · exact (of_decide_eq_true ha : 48 ≤ c.toNat ∧ c.toNat ≤ 57)
      · exact all_dig (r := r) (by omega) c hc
    · rw [if_neg ha] at h
      simp at h

end Go.Proofs.YtkfbpofjalcahaaDoor.Pl
