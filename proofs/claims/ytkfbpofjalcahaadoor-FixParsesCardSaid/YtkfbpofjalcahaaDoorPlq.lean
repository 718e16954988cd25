/- DERIVED. THE PLAIN LAW: the two plain functions, the program's and the reference's, answer alike at every text. No program in sight. -/
import Derived.Test.YtkfbpofjalcahaaDoorPlr
namespace Go.Proofs.YtkfbpofjalcahaaDoor.Pl

/-! ### Steps -/
theorem step_later {i : Nat} (hi : 1 ≤ i) (c : UInt8) (t : St) : step i c t = step 1 c t := by
  unfold step
  rw [if_neg (fun h => by omega), if_neg (c := 1 = 0 ∧ (c.toNat = 43 ∨ c.toNat = 45)) (fun h => by omega)]
theorem step_first {c : UInt8} (hc : ¬ (c.toNat = 43 ∨ c.toNat = 45)) (t : St) : step 0 c t = step 1 c t := by
  unfold step
  rw [if_neg (fun h => hc h.2), if_neg (c := 1 = 0 ∧ (c.toNat = 43 ∨ c.toNat = 45)) (fun h => by omega)]
theorem run_later : ∀ (l : List UInt8) (i : Nat), 1 ≤ i → ∀ t, run l i t = run l 1 t
  | [], _, _, _ => rfl
  | c :: l, i, hi, t => by
    unfold run
    rw [step_later hi]
    congr 1
    funext u
    rw [run_later l (i + 1) (by omega), run_later l (1 + 1) (by omega)]
theorem run_one (c : UInt8) (l : List UInt8) (t : St) : run (c :: l) 1 t = (step 1 c t).bind (run l 1) := by
  show (step 1 c t).bind (run l (1 + 1)) = _
  congr 1
  funext u
  exact run_later l 2 (by omega) u

theorem isD_iff {c : UInt8} : isD c = true ↔ 48 ≤ c.toNat ∧ c.toNat ≤ 57 := by simp [isD]

theorem one_dA {c : UInt8} {pt xe ex : Int} {neg dn : Bool} {ds : List UInt8} (h : isD c = true) (hp : pt = 2 ∨ pt = 3) : step 1 c ⟨pt, neg, xe, ds, ex, dn⟩ = some ⟨3, neg, xe - 1, ds ++ [c], ex, dn⟩ := by
  have := isD_iff.1 h
  unfold step
  rw [if_neg (by omega), if_pos this, if_pos hp]
theorem one_dB {c : UInt8} {pt xe ex : Int} {neg dn : Bool} {ds : List UInt8} (h : isD c = true) (hp : pt = 0 ∨ pt = 1) : step 1 c ⟨pt, neg, xe, ds, ex, dn⟩ = some ⟨1, neg, xe, ds ++ [c], ex, dn⟩ := by
  have := isD_iff.1 h
  unfold step
  rw [if_neg (by omega), if_pos this, if_neg (by simp only; omega), if_pos hp]
theorem one_dC {c : UInt8} {pt xe ex : Int} {neg dn : Bool} {ds : List UInt8} (h : isD c = true) (hp : 4 ≤ pt) : step 1 c ⟨pt, neg, xe, ds, ex, dn⟩ = some ⟨6, neg, xe, ds, min (10 * ex + ((c.toNat : Int) - 48)) 1099511627776, dn⟩ := by
  have := isD_iff.1 h
  unfold step
  rw [if_neg (by omega), if_pos this, if_neg (by simp only; omega), if_neg (by simp only; omega)]
theorem one_dot {c : UInt8} {pt xe ex : Int} {neg dn : Bool} {ds : List UInt8} (h : c.toNat = 46) (hp : pt ≤ 1) : step 1 c ⟨pt, neg, xe, ds, ex, dn⟩ = some ⟨2, neg, xe, ds, ex, dn⟩ := by
  unfold step
  rw [if_neg (by omega), if_neg (by omega), if_pos ⟨h, hp⟩]
theorem one_e {c : UInt8} {pt xe ex : Int} {neg dn : Bool} {ds : List UInt8} (h : c.toNat = 101 ∨ c.toNat = 69) (hp : pt < 4) (hd : 0 < ds.length) : step 1 c ⟨pt, neg, xe, ds, ex, dn⟩ = some ⟨4, neg, xe, ds, ex, dn⟩ := by
  unfold step
  rw [if_neg (by omega), if_neg (by omega), if_neg (by omega), if_pos ⟨h, hp, hd⟩]
theorem one_s {c : UInt8} {xe ex : Int} {neg dn : Bool} {ds : List UInt8} (h : c.toNat = 43 ∨ c.toNat = 45) : step 1 c ⟨4, neg, xe, ds, ex, dn⟩ = some ⟨5, neg, xe, ds, ex, c.toNat == 45⟩ := by
  unfold step
  rw [if_neg (by omega), if_neg (by omega), if_neg (by omega), if_neg (by omega), if_pos ⟨h, rfl⟩]
theorem one_no {c : UInt8} {pt xe ex : Int} {neg dn : Bool} {ds : List UInt8} (h2 : ¬ isD c = true) (h3 : ¬ (c.toNat = 46 ∧ pt ≤ 1)) (h4 : ¬ ((c.toNat = 101 ∨ c.toNat = 69) ∧ pt < 4 ∧ 0 < ds.length))
    (h5 : ¬ ((c.toNat = 43 ∨ c.toNat = 45) ∧ pt = 4)) : step 1 c ⟨pt, neg, xe, ds, ex, dn⟩ = none := by
  unfold step
  rw [if_neg (by omega), if_neg (fun h => h2 (isD_iff.2 h)), if_neg h3, if_neg h4, if_neg h5]

/-! ### Rows of digits -/
theorem run_dB : ∀ (d : List UInt8), (∀ c ∈ d, isD c = true) → ∀ (r : List UInt8) (pt xe ex : Int) (neg dn : Bool) (ds : List UInt8), pt = 0 ∨ pt = 1 →
    ∃ pt', (pt' = 0 ∨ pt' = 1) ∧ run (d ++ r) 1 ⟨pt, neg, xe, ds, ex, dn⟩ = run r 1 ⟨pt', neg, xe, ds ++ d, ex, dn⟩
  | [], _, r, pt, xe, ex, neg, dn, ds, hp => ⟨pt, hp, by simp⟩
  | c :: d, h, r, pt, xe, ex, neg, dn, ds, hp => by
    obtain ⟨p, h1, h2⟩ := run_dB d (fun x hx => h x (List.mem_cons_of_mem _ hx)) r 1 xe ex neg dn (ds ++ [c]) (Or.inr rfl)
    refine ⟨p, h1, ?_⟩
    rw [List.cons_append, run_one, one_dB (h c List.mem_cons_self) hp, Option.bind_some, h2, List.append_assoc]
    rfl
theorem run_dA : ∀ (d : List UInt8), (∀ c ∈ d, isD c = true) → ∀ (r : List UInt8) (pt xe ex : Int) (neg dn : Bool) (ds : List UInt8), pt = 2 ∨ pt = 3 →
    ∃ pt', (pt' = 2 ∨ pt' = 3) ∧ run (d ++ r) 1 ⟨pt, neg, xe, ds, ex, dn⟩ = run r 1 ⟨pt', neg, xe - d.length, ds ++ d, ex, dn⟩
  | [], _, r, pt, xe, ex, neg, dn, ds, hp => ⟨pt, hp, by simp⟩
  | c :: d, h, r, pt, xe, ex, neg, dn, ds, hp => by
    obtain ⟨p, h1, h2⟩ := run_dA d (fun x hx => h x (List.mem_cons_of_mem _ hx)) r 3 (xe - 1) ex neg dn (ds ++ [c]) (Or.inr rfl)
    refine ⟨p, h1, ?_⟩
    rw [List.cons_append, run_one, one_dA (h c List.mem_cons_self) hp, Option.bind_some, h2, List.append_assoc, List.length_cons,
      show xe - 1 - (d.length : Int) = xe - ((d.length + 1 : Nat) : Int) by omega]
    rfl
theorem run_dC : ∀ (d : List UInt8), (∀ c ∈ d, isD c = true) → ∀ (r : List UInt8) (pt xe ex : Int) (neg dn : Bool) (ds : List UInt8), 4 ≤ pt →
    run (d ++ r) 1 ⟨pt, neg, xe, ds, ex, dn⟩ = run r 1 ⟨if d = [] then pt else 6, neg, xe, ds, foldE ex d, dn⟩
  | [], _, r, pt, xe, ex, neg, dn, ds, hp => by simp [foldE]
  | c :: d, h, r, pt, xe, ex, neg, dn, ds, hp => by
    have := run_dC d (fun x hx => h x (List.mem_cons_of_mem _ hx)) r 6 xe (min (10 * ex + ((c.toNat : Int) - 48)) 1099511627776) neg dn ds (by omega)
    rw [List.cons_append, run_one, one_dC (h c List.mem_cons_self) hp, Option.bind_some, this]
    simp [foldE]

theorem tw_all {l : List UInt8} : ∀ c ∈ l.takeWhile isD, isD c = true := by
  have := List.all_takeWhile (p := isD) (l := l)
  rw [List.all_eq_true] at this
  exact this
/-- What is left behind a row of digits begins with none. -/
theorem dw_head : ∀ {l : List UInt8} {c : UInt8} {r : List UInt8}, l.dropWhile isD = c :: r → ¬ isD c = true
  | [], _, _, h => by cases h
  | a :: l, c, r, h => by
    rw [List.dropWhile_cons] at h
    by_cases ha : isD a = true
    · rw [if_pos ha] at h; exact dw_head h
    · rw [if_neg ha] at h; cases h; exact ha

theorem expo_cons (c : UInt8) (r : List UInt8) : expo (c :: r) = if c.toNat = 101 ∨ c.toNat = 69 then expoS r else none := rfl
theorem expoS_cons (c : UInt8) (r : List UInt8) : expoS (c :: r) = if c.toNat = 43 ∨ c.toNat = 45 then expoD (c.toNat == 45) r else expoD false (c :: r) := rfl
theorem rD_cons (neg : Bool) (a : List UInt8) (c : UInt8) (r : List UInt8) : rD neg a (c :: r) = if c.toNat = 46 then rE neg a (r.takeWhile isD) (r.dropWhile isD) else rE neg a [] (c :: r) := rfl
theorem unsign_cons (c : UInt8) (r : List UInt8) : unsign (c :: r) = if c.toNat = 43 ∨ c.toNat = 45 then r else c :: r := rfl

/-! ### What a run comes to -/
def fin (t : Option St) : Int × Int :=
  match t with
  | none => (0, 3)
  | some t => if 0 < t.ds.length ∧ t.pt ≠ 4 ∧ t.pt ≠ 5 then value t.ds (t.xe + (if t.dn then -t.ex else t.ex) + 6) t.neg else (0, 3)

theorem fin_parts (l : List UInt8) : (match parts l with | none => ((0, 3) : Int × Int) | some (neg, ds, x) => value ds (x + 6) neg) = fin (run l 0 st0) := by
  unfold parts fin
  cases run l 0 st0 with
  | none => rfl
  | some t =>
    simp only
    by_cases h : 0 < t.ds.length ∧ t.pt ≠ 4 ∧ t.pt ≠ 5
    · rw [if_pos h, if_pos h]
    · rw [if_neg h, if_neg h]

/-- The exponent's digits. -/
theorem fin_D (r : List UInt8) (p xe : Int) (neg dn : Bool) (ds : List UInt8) (hd : 0 < ds.length) (hp : p = 4 ∨ p = 5) (hs : p = 4 → ∀ c l, r = c :: l → ¬ (c.toNat = 43 ∨ c.toNat = 45)) :
    fin (run r 1 ⟨p, neg, xe, ds, 0, dn⟩) = match expoD dn r with | none => (0, 3) | some e => value ds (e + 6 + xe) neg := by
  have hsp := List.takeWhile_append_dropWhile (p := isD) (l := r)
  have hrun := run_dC (r.takeWhile isD) tw_all (r.dropWhile isD) p xe 0 neg dn ds (by omega)
  rw [hsp] at hrun
  rw [hrun]
  cases hdw : r.dropWhile isD with
  | nil =>
    rw [hdw, List.append_nil] at hsp
    rw [hsp]
    unfold expoD
    by_cases h0 : r = []
    · rw [if_pos h0, if_pos (Or.inl h0)]
      subst h0
      show fin (some _) = _
      unfold fin
      simp only
      rw [if_neg (by omega)]
    · rw [if_neg h0, if_neg (by rw [hsp]; intro h; rcases h with h | h; exact h0 h; omega)]
      show fin (some _) = _
      unfold fin
      simp only
      rw [if_pos ⟨hd, by omega, by omega⟩]
      congr 1
      cases dn <;> simp <;> omega
  | cons c l =>
    have hc := dw_head hdw
    have hlt : (r.takeWhile isD).length < r.length := by
      have := congrArg List.length hsp
      rw [List.length_append, hdw, List.length_cons] at this
      omega
    unfold expoD
    rw [if_pos (Or.inr hlt), run_one]
    have : step 1 c ⟨if r.takeWhile isD = [] then p else 6, neg, xe, ds, foldE 0 (r.takeWhile isD), dn⟩ = none := by
      refine one_no hc ?_ ?_ ?_
      · rintro ⟨_, h⟩; split at h <;> omega
      · rintro ⟨_, h, _⟩; split at h <;> omega
      · rintro ⟨h1, h2⟩
        by_cases ht : r.takeWhile isD = []
        · rw [if_pos ht] at h2
          rw [ht, List.nil_append, hdw] at hsp
          exact hs h2 c l hsp.symm h1
        · rw [if_neg ht] at h2
          omega
    rw [this]
    rfl

/-- From behind the digits on. -/
theorem fin_T (r : List UInt8) (pt xe : Int) (neg : Bool) (ds : List UInt8) (hp0 : 0 ≤ pt) (hp : pt < 4) (hh : ∀ c l, r = c :: l → ¬ isD c = true ∧ ¬ (c.toNat = 46 ∧ pt ≤ 1)) :
    fin (run r 1 ⟨pt, neg, xe, ds, 0, false⟩) = if ds.length = 0 then (0, 3) else match expo r with | none => (0, 3) | some e => value ds (e + 6 + xe) neg := by
  cases r with
  | nil =>
    show fin (some _) = _
    unfold fin expo
    simp only
    by_cases h0 : ds.length = 0
    · rw [if_neg (by omega), if_pos h0]
    · rw [if_pos ⟨by omega, by omega, by omega⟩, if_neg h0]
      congr 1
      simp
      omega
  | cons c l =>
    obtain ⟨h1, h2⟩ := hh c l rfl
    rw [run_one]
    by_cases h0 : ds.length = 0
    · rw [if_pos h0, one_no h1 h2 (by omega) (by omega)]
      rfl
    · rw [if_neg h0]
      rw [expo_cons]
      by_cases he : c.toNat = 101 ∨ c.toNat = 69
      · rw [if_pos he, one_e he hp (by omega), Option.bind_some]
        cases l with
        | nil =>
          show fin (some _) = _
          unfold fin
          simp only
          rw [if_neg (by omega)]
          rfl
        | cons c3 l3 =>
          rw [expoS_cons]
          by_cases hs : c3.toNat = 43 ∨ c3.toNat = 45
          · rw [if_pos hs, run_one, one_s hs, Option.bind_some]
            exact fin_D l3 5 xe neg _ ds (by omega) (Or.inr rfl) (fun h => by omega)
          · rw [if_neg hs]
            exact fin_D (c3 :: l3) 4 xe neg _ ds (by omega) (Or.inl rfl) (fun _ c' l' e => by cases e; exact hs)
      · rw [if_neg he, one_no h1 h2 (fun h => he h.1) (by omega)]
        rfl

theorem fin_E (r : List UInt8) (pt xe : Int) (neg : Bool) (a b : List UInt8) (hp0 : 0 ≤ pt) (hp : pt < 4) (hh : ∀ c l, r = c :: l → ¬ isD c = true ∧ ¬ (c.toNat = 46 ∧ pt ≤ 1)) (hx : xe = -(b.length : Int)) :
    fin (run r 1 ⟨pt, neg, xe, a ++ b, 0, false⟩) = rE neg a b r := by
  rw [fin_T r pt xe neg (a ++ b) hp0 hp hh]
  unfold rE rF
  rw [List.length_append]
  by_cases h0 : a.length + b.length = 0
  · rw [if_pos h0, if_pos h0]
  · rw [if_neg h0, if_neg h0]
    cases expo r with
    | none => rfl
    | some e =>
      simp only
      rw [hx]
      rfl

theorem fin_C (u : List UInt8) (neg : Bool) : fin (run u 1 ⟨0, neg, 0, [], 0, false⟩) = rC neg u := by
  have hsp := List.takeWhile_append_dropWhile (p := isD) (l := u)
  obtain ⟨p, hp, hrun⟩ := run_dB (u.takeWhile isD) tw_all (u.dropWhile isD) 0 0 0 neg false [] (Or.inl rfl)
  rw [hsp, List.nil_append] at hrun
  rw [hrun]
  unfold rC
  cases hdw : u.dropWhile isD with
  | nil =>
    have := fin_E [] p 0 neg (u.takeWhile isD) [] (by omega) (by omega) (fun _ _ h => by cases h) rfl
    rw [List.append_nil] at this
    exact this
  | cons c r =>
    have hc := dw_head hdw
    rw [rD_cons]
    by_cases h46 : c.toNat = 46
    · rw [if_pos h46, run_one, one_dot h46 (by omega), Option.bind_some]
      obtain ⟨p2, hp2, hrun2⟩ := run_dA (r.takeWhile isD) tw_all (r.dropWhile isD) 2 0 0 neg false (u.takeWhile isD) (Or.inl rfl)
      rw [List.takeWhile_append_dropWhile] at hrun2
      rw [hrun2]
      exact fin_E _ p2 _ neg _ _ (by omega) (by omega) (fun c l h => ⟨dw_head h, fun k => by omega⟩) (by omega)
    · rw [if_neg h46]
      have := fin_E (c :: r) p 0 neg (u.takeWhile isD) [] (by omega) (by omega) (fun c' l' h => by cases h; exact ⟨hc, fun k => h46 k.1⟩) rfl
      rw [List.append_nil] at this
      exact this

theorem fin_run (l : List UInt8) : fin (run l 0 st0) = rC (minus l) (unsign l) := by
  cases l with
  | nil => exact fin_C [] false
  | cons c r =>
    by_cases hc : c.toNat = 43 ∨ c.toNat = 45
    · have hu : unsign (c :: r) = r := by rw [unsign_cons, if_pos hc]
      have hs : step 0 c st0 = some ⟨0, c.toNat == 45, 0, [], 0, false⟩ := by
        unfold step
        rw [if_pos ⟨rfl, hc⟩]
        rfl
      rw [hu]
      show fin ((step 0 c st0).bind (run r (0 + 1))) = _
      rw [hs, Option.bind_some]
      exact fin_C r _
    · have hu : unsign (c :: r) = c :: r := by rw [unsign_cons, if_neg hc]
      have hm : minus (c :: r) = false := by
        show (c.toNat == 45) = false
        rw [beq_eq_false_iff_ne]
        exact fun h => hc (Or.inr h)
      rw [hu, hm]
      show fin ((step 0 c st0).bind (run r (0 + 1))) = _
      rw [step_first hc, show (step 1 c st0).bind (run r (0 + 1)) = run (c :: r) 1 st0 from (run_one c r st0).symm]
      exact fin_C (c :: r) false

/-! ### The words -/
theorem low_sign (c : UInt8) : ((low c).toNat = 43 ∨ (low c).toNat = 45) ↔ (c.toNat = 43 ∨ c.toNat = 45) := by
  unfold low
  by_cases h : 65 ≤ c.toNat ∧ c.toNat ≤ 90
  · rw [if_pos h, UInt8.toNat_add]
    have e : (32 : UInt8).toNat = 32 := rfl
    rw [e]
    omega
  · rw [if_neg h]
theorem unsign_low (l : List UInt8) : unsign (l.map low) = (unsign l).map low := by
  cases l with
  | nil => rfl
  | cons c r =>
    rw [List.map_cons, unsign_cons, unsign_cons]
    by_cases h : c.toNat = 43 ∨ c.toNat = 45
    · rw [if_pos h, if_pos ((low_sign c).2 h)]
    · rw [if_neg h, if_neg (fun k => h ((low_sign c).1 k)), List.map_cons]
theorem isWord_len {m : List UInt8} (h : isWord m = true) : m.length < 10 := by
  unfold isWord at h
  simp only [Bool.or_eq_true, decide_eq_true_eq] at h
  rcases h with (rfl | rfl) | rfl <;> decide

/-- THE PLAIN LAW. -/
theorem parse_refp (l : List UInt8) : parse l = refp l := by
  unfold parse refp rB
  have hw : word l = isWord ((unsign l).map low) := by unfold word; rw [unsign_low]
  by_cases h : word l = true
  · have h1 : (unsign l).length < 10 ∧ isWord ((unsign l).map low) = true := by
      rw [hw] at h
      have := isWord_len h
      rw [List.length_map] at this
      exact ⟨this, h⟩
    rw [if_pos h, if_pos h1]
  · rw [if_neg h, if_neg (fun k => h (by rw [hw]; exact k.2))]
    exact (fin_parts l).trans (fin_run l)

end Go.Proofs.YtkfbpofjalcahaaDoor.Pl
