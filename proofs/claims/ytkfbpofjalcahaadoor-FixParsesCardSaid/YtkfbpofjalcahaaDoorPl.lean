/- DERIVED. The plain side of fix.Parse: what the two inner functions compute, as plain functions on bytes. No program in sight. -/
namespace Go.Proofs.YtkfbpofjalcahaaDoor.Pl

/-- Where in a text one is, and what has been read. -/
structure St where
  pt : Int
  neg : Bool
  xe : Int
  ds : List UInt8
  ex : Int
  dn : Bool

def st0 : St := ⟨0, false, 0, [], 0, false⟩

def step (i : Nat) (c : UInt8) (t : St) : Option St :=
  if i = 0 ∧ (c.toNat = 43 ∨ c.toNat = 45) then some { t with neg := c.toNat == 45 }
  else if 48 ≤ c.toNat ∧ c.toNat ≤ 57 then
    if t.pt = 2 ∨ t.pt = 3 then some { t with pt := 3, xe := t.xe - 1, ds := t.ds ++ [c] }
    else if t.pt = 0 ∨ t.pt = 1 then some { t with pt := 1, ds := t.ds ++ [c] }
    else some { t with pt := 6, ex := min (10 * t.ex + ((c.toNat : Int) - 48)) 1099511627776 }
  else if c.toNat = 46 ∧ t.pt ≤ 1 then some { t with pt := 2 }
  else if (c.toNat = 101 ∨ c.toNat = 69) ∧ t.pt < 4 ∧ 0 < t.ds.length then some { t with pt := 4 }
  else if (c.toNat = 43 ∨ c.toNat = 45) ∧ t.pt = 4 then some { t with pt := 5, dn := c.toNat == 45 }
  else none

def run : List UInt8 → Nat → St → Option St
  | [], _, t => some t
  | c :: l, i, t => (step i c t).bind (run l (i + 1))

/-- A text's parts: its sign, its digits, its exponent. -/
def parts (l : List UInt8) : Option (Bool × List UInt8 × Int) :=
  match run l 0 st0 with
  | none => none
  | some t => if 0 < t.ds.length ∧ t.pt ≠ 4 ∧ t.pt ≠ 5 then some (t.neg, t.ds, t.xe + (if t.dn then -t.ex else t.ex)) else none

def low (c : UInt8) : UInt8 := if 65 ≤ c.toNat ∧ c.toNat ≤ 90 then c + 32 else c

def unsign : List UInt8 → List UInt8
  | [] => []
  | c :: l => if c.toNat = 43 ∨ c.toNat = 45 then l else c :: l

def isWord (l : List UInt8) : Bool := l = [110, 97, 110] || l = [105, 110, 102] || l = [105, 110, 102, 105, 110, 105, 116, 121]

/-- Is a text one that is no number in millionths? -/
def word (l : List UInt8) : Bool := isWord (unsign (l.map low))

end Go.Proofs.YtkfbpofjalcahaaDoor.Pl
